/- Contracts of the functions that the laws 'R' reach, part 19. No condition. -/
import Derived.Test.YtmbokdnndlnjkaaGreatMRr
set_option linter.unusedVariables false
set_option linter.unusedSimpArgs false
namespace Go.Proofs.YtmbokdnndlnjkaaGreat.L19
open L02 L07 L13 L14 L15 L16 L18 L20
/-- the change that drops a handle -/
def diL (l : List UInt64) (sl g : Int) : List (Int × UInt64) := if askI l sl g = 0 then [(dropAt l sl g, dropVal l sl g)] else []
/-- whether something else refers to the object of a handle -/
def biE (l : List UInt64) (sl g : Int) : Bool := decide (askI l sl g = 0) && decide (Busy (seen l) sl (own (seen l) sl))
/-- the error and the change that free an object -/
def fiE (l : List UInt64) (sl g : Int) : Int := if askI l sl g = 0 then (if Busy (seen l) sl (own (seen l) sl) then 45 else 0) else askI l sl g
def fiB (l : List UInt64) (sl g : Int) : Hb := around l (res l sl g)
def fiL (l : List UInt64) (sl g : Int) : List (Int × UInt64) := if fiE l sl g = 0 then [(dropAt l sl g, dropVal l sl g), ((fiB l sl g).at_, L14.word (fiB l sl g))] else []
theorem freeE_seen {l : List UInt64} (h : Rt l) (sl g : Int) : freeE (seen l) sl g = fiE l sl g := by
  unfold freeE fiE; rw [asked_seen h]
/-- the image behind a dropped handle -/
theorem Hd.drop {l : List UInt64} {k a nn q : Nat} {sg : Int} {b : Hb} {t : List UInt8} (h : Hd l k a nn q sg b t) :
    diL l k sg = [(((112 + k : Nat) : Int), pk ⟨sg, false, 0⟩)] ∧ made l (diL l k sg) = l.set (112 + k) (pk ⟨sg, false, 0⟩) ∧ Rt (made l (diL l k sg)) ∧ seen (made l (diL l k sg)) = dropM (seen l) k sg ∧
      O19 (made l (diL l k sg)) = O19 l ∧ T19 (made l (diL l k sg)) = T19 l ∧ allL (made l (diL l k sg)) = allL l ∧ slots (made l (diL l k sg)) = (slots l).set k ⟨sg, false, 0⟩ := by
  have hr := seen_slot h.rt (List.mem_of_getElem? h.hs)
  have hr0 : Right ⟨sg, false, 0⟩ := ⟨hr.1, hr.2.1, fun _ => rfl, fun e => by cases e⟩
  have e1 : diL l k sg = [(((112 + k : Nat) : Int), pk ⟨sg, false, 0⟩)] := by
    unfold diL; rw [if_pos h.hask, dropAt, dropVal, if_pos h.hr, if_pos h.hr]
    congr 2
  have e2 : made l (diL l k sg) = l.set (112 + k) (pk ⟨sg, false, 0⟩) := by rw [e1, made_one (by have := h.rt.sz.1; have := h.hk; omega)]
  obtain ⟨r1, r2, r3, r4, r5⟩ := seen_slot_set h.rt h.hk hr0 (fun e => by cases e)
  rw [e2]
  refine ⟨e1, rfl, r1, ?_, r3, r4, r5, ?_⟩
  · rw [r2, dropM, if_pos (by rw [asked_seen h.rt]; exact h.hask), Int.toNat_natCast]
    rfl
  · rw [slots_set _ h.hk, spl_pk hr0]
/-- what is busy, by the image alone -/
theorem Hd.busy {l : List UInt64} {k a nn q : Nat} {sg : Int} {b : Hb} {t : List UInt8} (h : Hd l k a nn q sg b t) :
    Busy (seen l) k (L20.own (seen l) k) ↔ (∃ i s, i ≠ k ∧ (slots l)[i]? = some s ∧ s.used = true ∧ s.at_ = a) ∨ ∃ c ∈ O19 l, c.at_ ≠ a ∧ ∃ j, j < (kindsB (T19 l) c).length ∧ ((kindsB (T19 l) c).getD j 0).toNat = 3 ∧ ((fw l c j).toNat : Int) = a := by
  have hOl := objs_len h.rt.al
  have hii : idx (O19 l) (a : Int) = some nn := by rw [← h.hat]; exact idx_at h.rt.al h.ho
  unfold Busy
  rw [h.own]
  refine or_congr ?_ ?_
  · constructor
    · rintro ⟨i, h1, h2, h3, h4⟩
      have h1' : i < (slots l).length := by have h9 : i < ((slots l).map (slOf (O19 l))).length := h1; rwa [List.length_map] at h9
      have hs : (slots l)[i]? = some (slots l)[i] := List.getElem?_eq_getElem h1'
      have hg : (seen l).slots.getD i .none = slOf (O19 l) (slots l)[i] := by
        show ((slots l).map (slOf (O19 l))).getD i .none = _
        rw [List.getD_eq_getElem?_getD, List.getElem?_map, hs]; rfl
      rw [hg] at h3 h4
      rw [(slOf_ug _ _).1] at h3
      refine ⟨i, _, by omega, hs, h3, ?_⟩
      obtain ⟨j, c, j1, j2, j3, _⟩ := idx_of (h.rt.slots _ (List.mem_of_getElem? hs) h3)
      unfold slOf at h4
      rw [if_pos h3, j1] at h4
      have : j = nn := by have : (j : Int) = nn := h4; omega
      subst this
      exact idx_inj j1 hii
    · rintro ⟨i, s, h1, hs, h3, h4⟩
      have hg : (seen l).slots.getD i .none = slOf (O19 l) s := by
        show ((slots l).map (slOf (O19 l))).getD i .none = _
        rw [List.getD_eq_getElem?_getD, List.getElem?_map, hs]; rfl
      refine ⟨i, ?_, by omega, ?_, ?_⟩
      · show i < ((slots l).map (slOf (O19 l))).length
        rw [List.length_map]; exact (List.getElem?_eq_some_iff.1 hs).1
      · rw [hg, (slOf_ug _ _).1, h3]
      · rw [hg]; unfold slOf; rw [if_pos h3, h4, hii]
  · have hobj : ∀ i, i < (O19 l).length → ∃ c, (O19 l)[i]? = some c ∧ L20.ob (seen l) i = obOf l (T19 l) (O19 l) c := fun i hi => by
      have hc : (O19 l)[i]? = some (O19 l)[i] := List.getElem?_eq_getElem hi
      refine ⟨_, hc, ?_⟩
      unfold L20.ob
      show ((O19 l).map _).getD i _ = _
      rw [List.getD_eq_getElem?_getD, List.getElem?_map, hc]; rfl
    have key : ∀ c ∈ O19 l, ∀ j, j < (kindsB (T19 l) c).length → (isRef (seen l) (obOf l (T19 l) (O19 l) c) j nn ↔ ((kindsB (T19 l) c).getD j 0).toNat = 3 ∧ ((fw l c j).toNat : Int) = a) := fun c hc j hj => by
      unfold isRef
      show ((kindsB (T19 l) c).getD j 0).toNat = 3 ∧ ((obFs l (T19 l) (O19 l) c).getD j 0).toNat = nn + 1 ↔ _
      rw [List.getD_eq_getElem?_getD (l := obFs l (T19 l) (O19 l) c), obFs_get hj]
      refine and_congr_right fun h3 => ?_
      show (fldV (O19 l) _ (fw l c j)).toNat = nn + 1 ↔ _
      rw [fldV_ref h3]
      have h11 : fw l c j = 0 ∨ IsObj (O19 l) (fw l c j).toNat := h.rt.good 11 (by omega) (by omega) c hc j hj h3
      rcases h11 with h0 | h0
      · rw [h0, refV_none (no_zero h.rt.al (objs_low h.rt.al))]
        have := h.ha1
        constructor <;> intro e <;> simp at e <;> omega
      · obtain ⟨x, y, j1, j2, j3, j4⟩ := idx_of h0
        rw [refV_some j1, UInt64.toNat_ofNat', Nat.mod_eq_of_lt (by omega)]
        constructor
        · intro e
          have : x = nn := by omega
          subst this
          exact idx_inj j1 hii
        · intro e
          rw [e, hii] at j1; injection j1 with j1; omega
    constructor
    · rintro ⟨i, h1, h2, j, h3, h4⟩
      have h1' : i < (O19 l).length := by have h9 : i < ((O19 l).map (obOf l (T19 l) (O19 l))).length := h1; rwa [List.length_map] at h9
      obtain ⟨c, hc, ho⟩ := hobj i h1'
      rw [ho] at h3 h4
      have h3' : j < (kindsB (T19 l) c).length := by rw [← obFs_len l (T19 l) (O19 l) c]; exact h3
      have := (key c (List.mem_of_getElem? hc) j h3').1 h4
      refine ⟨c, List.mem_of_getElem? hc, fun e => h2 ?_, j, h3', this⟩
      have hcb := objs_inj h.rt.al (List.mem_of_getElem? hc) (List.mem_of_getElem? h.ho) (by rw [e, h.hat])
      subst hcb
      exact objs_idx h.rt.al hc h.ho
    · rintro ⟨c, hc, h2, j, h3, h4⟩
      obtain ⟨i, hi⟩ := List.getElem?_of_mem hc
      have h1 := (List.getElem?_eq_some_iff.1 hi).1
      obtain ⟨c', hc', ho⟩ := hobj i h1
      have : c' = c := by rw [hi] at hc'; injection hc' with e; exact e.symm
      subst this
      refine ⟨i, ?_, fun e => h2 ?_, j, ?_, ?_⟩
      · show i < ((O19 l).map _).length
        rw [List.length_map]; exact h1
      · subst e; rw [h.ho] at hi; injection hi with hi; rw [← hi, h.hat]
      · rw [ho]; show j < (obFs l (T19 l) (O19 l) c').length; rw [obFs_len]; exact h3
      · rw [ho]; exact (key c' hc j h3).2 h4
/-- the index of an object among all blocks -/
theorem Hd.block {l : List UInt64} {k a nn q : Nat} {sg : Int} {b : Hb} {t : List UInt8} (h : Hd l k a nn q sg b t) : ∃ i, objIdx (allL l) a 0 = some i ∧ (allL l)[i]? = some b ∧ arErr l a = 0 ∧ around l a = becomes (allL l) i := by
  obtain ⟨hbL, hbk⟩ := objs_mem.1 (List.mem_of_getElem? h.ho)
  cases h1 : objIdx (allL l) (a : Int) 0 with
  | none => exact absurd ⟨h.hat, hbk⟩ (objIdx_none.1 h1 b hbL)
  | some i =>
    obtain ⟨_, c, h2, h3, h4⟩ := objIdx_some h1
    rw [Nat.sub_zero] at h2
    have hc : c = b := objs_inj h.rt.al (objs_mem.2 ⟨List.mem_of_getElem? h2, h4⟩) (List.mem_of_getElem? h.ho) (by rw [h3, h.hat])
    subst hc
    have he : arErr l a = 0 := by unfold arErr; rw [if_pos h.rt.al, h1]; rfl
    exact ⟨i, rfl, h2, he, by unfold around; rw [if_pos he, h1]; rfl⟩
/-- an object freed -/
theorem Hd.free {l : List UInt64} {k a nn q : Nat} {sg : Int} {b : Hb} {t : List UInt8} (h : Hd l k a nn q sg b t) (h0 : fiE l k sg = 0) :
    ∃ (i : Nat) (m : Hb) (p : Nat), (allL l)[i]? = some b ∧ m = becomes (allL l) i ∧ fiB l k sg = m ∧ m.at_ = p ∧ 128 ≤ p ∧ BkOk m ∧ m.at_ + m.size ≤ l.length ∧ fiL l k sg = [(((112 + k : Nat) : Int), pk ⟨sg, false, 0⟩), ((p : Int), L14.word m)] ∧
      made l (fiL l k sg) = (l.set (112 + k) (pk ⟨sg, false, 0⟩)).set p (L14.word m) ∧ Rt (made l (fiL l k sg)) ∧ seen (made l (fiL l k sg)) = freeM (seen l) k sg ∧ slots (made l (fiL l k sg)) = (slots l).set k ⟨sg, false, 0⟩ ∧ T19 (made l (fiL l k sg)) = T19 l ∧
      (∃ P M S, allL l = P ++ (M ++ S) ∧ b ∈ M ∧ (∀ c ∈ M, c ≠ b → c.kind = 2) ∧ allL (made l (fiL l k sg)) = P ++ ([{ m with next := (made l (fiL l k sg)).getD (p + 1) 0 }] ++ S)) := by
  obtain ⟨d1, d2, d3, d4, d5, d6, d7, d8⟩ := h.drop
  obtain ⟨i, i1, i2, i3, i4⟩ := h.block
  rw [d2] at d3 d4 d5 d6 d7 d8
  have hnb : ¬ Busy (seen l) k (L20.own (seen l) k) := fun hb => by
    unfold fiE at h0; rw [if_pos h.hask, if_pos hb] at h0; omega
  rw [h.busy] at hnb
  obtain ⟨hn1, hn2⟩ := not_or.1 hnb
  obtain ⟨l1, hl1⟩ : ∃ l1, l1 = l.set (112 + k) (pk ⟨sg, false, 0⟩) := ⟨_, rfl⟩
  rw [← hl1] at d3 d4 d5 d6 d7 d8 d2
  have hlen : l1.length = l.length := by rw [hl1, List.length_set]
  have hbk : b.kind = 1 := (objs_mem.1 (List.mem_of_getElem? h.ho)).2
  obtain ⟨m, hm⟩ : ∃ m, m = becomes (allL l) i := ⟨_, rfl⟩
  have hfw : ∀ c ∈ O19 l, ∀ j, fw l1 c j = fw l c j := fun c hc j => by
    have := objs_low h.rt.al c hc
    have := h.hk
    rw [hl1]; exact fw_set (by omega)
  obtain ⟨r1, r2, r3, r4, r5⟩ := seen_free d3 (n := nn) (i := i) (b := b) (by rw [d5]; exact h.ho) (by rw [d7]; exact i2) (fun s hs hu e => by
    rw [d8] at hs
    obtain ⟨j, hj⟩ := List.getElem?_of_mem hs
    by_cases hjk : j = k
    · subst hjk
      rw [List.getElem?_set_self (by rw [slots_len' h.rt.sl]; exact h.hk)] at hj
      injection hj with hj; subst hj; cases hu
    · rw [List.getElem?_set_ne (fun e => hjk e.symm)] at hj
      exact hn1 ⟨j, s, hjk, hj, hu, by rw [e, h.hat]⟩) (fun c hc hcb j hj h3 e => by
    rw [d5] at hc
    rw [d6] at hj h3
    rw [hfw c hc j] at e
    refine hn2 ⟨c, hc, fun e2 => hcb (objs_inj h.rt.al hc (List.mem_of_getElem? h.ho) (by rw [e2, h.hat])), j, hj, h3, by rw [e, h.hat]⟩) (m := m) (by rw [hm, d7])
  obtain ⟨P, lo, hi, S', p, q', hc, e1, e2, hok, _⟩ := merge_part h.rt.al i2 hbk
  rw [← hm] at e1 e2 hok
  have hpn : m.at_.toNat = p := by omega
  rw [hpn] at r1 r2 r3
  have hfB : fiB l k sg = m := by unfold fiB; rw [h.hres, i4, hm]
  have eL : fiL l k sg = [(((112 + k : Nat) : Int), pk ⟨sg, false, 0⟩), ((p : Int), L14.word m)] := by
    have : diL l k sg = [(dropAt l k sg, dropVal l k sg)] := by unfold diL; rw [if_pos h.hask]
    rw [d1] at this
    injection this with this _
    unfold fiL
    rw [if_pos h0, ← this, hfB, e1]
  have eM : made l (fiL l k sg) = l1.set p (L14.word m) := by
    rw [eL]
    unfold made
    have s1 : put1 l (((112 + k : Nat) : Int), pk ⟨sg, false, 0⟩) = l1 := by rw [put1_set (by have := h.rt.sz.1; have := h.hk; omega), hl1]
    show put1 (put1 l _) _ = _
    rw [s1, put1_set (by have hb := hok.bounds; omega)]
  rw [eM]
  have hf : Front l1 (l1.set p (L14.word m)) := front_set (by omega)
  refine ⟨i, m, p, i2, hm, hfB, e1, by omega, hok, by rw [← hlen]; exact r5, eL, by rw [hl1], r1, ?_, by rw [hf.open_.2, d8], by rw [hf.types, d6], ?_⟩
  · rw [r2, d4]
    have ha : asked (seen l) k sg = 0 := by rw [asked_seen h.rt]; exact h.hask
    have hE : freeE (seen l) k sg = 0 := by rw [freeE_seen h.rt]; exact h0
    rw [freeM, if_pos hE, dropM, if_pos ha, h.own]
    congr 2
  · obtain ⟨P, M, S, x1, x2, x3, x4⟩ := r3
    rw [d7] at x1
    exact ⟨P, M, S, x1, x2, x3, x4⟩
end Go.Proofs.YtmbokdnndlnjkaaGreat.L19
namespace Go.Proofs.YtmbokdnndlnjkaaGreat
open Go.RowKit L01 L02 L05 L06 L07 L13 L14 L15 L18 L19 L20
theorem ask_res {l : List UInt64} {sl g : Int} (h : askI l sl g = 0) : resErr l sl g = 0 := by
  unfold askI at h
  by_cases hc : chk19 l = 0
  · rwa [if_pos hc] at h
  · rw [if_neg hc] at h; exact absurd h hc
set_option maxRecDepth 100000 in
set_option maxHeartbeats 2000000 in
theorem open23_any (v : Value) (l : List UInt64) (sl g : Int) (p r : Int) (hp : p = atI l sl g) (hr : r = askI l sl g) (w : World) (h : Words w v l) :
    Calls Tryz.prog 55 #[v, .agg #[.int .i64 sl, .int .i64 g]] w fun e w' => e = .returned (.tuple #[.int .i64 p, .int .i64 r]) ∧ Below w.heap.size w w' := by
  have B : Below w.heap.size w w := Below.refl _ _
  have H := Lib.hid h
  obtain ⟨c, hc⟩ : ∃ c, c = chk19 l := ⟨_, rfl⟩
  have CK := Lib.hid (fun w h => Check19_any v l c hc w h)
  by_cases h0 : c = 0
  case neg =>
    have hra : r = c := by rw [hr, askI, if_neg (by rw [← hc]; exact h0), hc]
    obtain rfl : p = 0 := by rw [hp, atI, if_neg (by rw [← hr, hra]; exact h0)]
    subst hra
    have n1 : (r != 0) = true := by rw [bne_iff_ne]; exact h0
    clear hp hr h hc h0
    go_enter Tryz.func55, Tryz.ntmps55
    go_upto_region 1 with (fail)
    refine wp_gen (fun Wv => Bx Wv (w.heap.size) (39) (#[.int .i64 sl, .int .i64 g]) ∧ Below w.heap.size w Wv) ⟨((Bx.at_ (by simp))), ((Below.refl _ w).alloc (by simp <;> omega) _)⟩ ?_
    rintro wa1 ⟨g1, b⟩
    replace B := B.trans (b.mono B.size); clear b
    have c_g1 := g1.cell; have f_g1 := g1.free; have a_g1 := fun o => (g1.alloc o).cell; have d_g1 := fun o o2 => ((g1.alloc o).alloc o2).cell; have e_g1 := fun o => (g1.alloc o).free
    go_wp2_with fail
    refine (CK.out _ (H.out.below B)).mono ?_
    rintro e wa2 ⟨rfl, b⟩
    try clear c_g1 f_g1 a_g1 d_g1 e_g1
    replace g1 := g1.below b; have c_g1 := g1.cell; have f_g1 := g1.free; have a_g1 := fun o => (g1.alloc o).cell; have d_g1 := fun o o2 => ((g1.alloc o).alloc o2).cell; have e_g1 := fun o => (g1.alloc o).free; replace B := B.trans (b.mono B.size); clear b
    go_wp2
    go_ret2
    exact ⟨rfl, B⟩
  case pos =>
    subst h0
    obtain ⟨x, hx⟩ : ∃ x, x = res l sl g := ⟨_, rfl⟩
    have ha : askI l sl g = resErr l sl g := by rw [askI, if_pos hc.symm]
    have RT := Lib.hid (fun w h => Resolve_any v l sl g x r hx (by rw [hr, ha]) w h)
    obtain rfl : p = x := by
      rw [hp, hx, atI]
      by_cases h1 : askI l sl g = 0
      · rw [if_pos h1]
      · rw [if_neg h1, res, if_neg (by rw [← ha]; exact h1)]
    clear hp hr h hc hx ha
    go_enter Tryz.func55, Tryz.ntmps55
    go_upto_region 1 with (fail)
    refine wp_gen (fun Wv => Bx Wv (w.heap.size) (39) (#[.int .i64 sl, .int .i64 g]) ∧ Below w.heap.size w Wv) ⟨((Bx.at_ (by simp))), ((Below.refl _ w).alloc (by simp <;> omega) _)⟩ ?_
    rintro wa1 ⟨g1, b⟩
    replace B := B.trans (b.mono B.size); clear b
    have c_g1 := g1.cell; have f_g1 := g1.free; have a_g1 := fun o => (g1.alloc o).cell; have d_g1 := fun o o2 => ((g1.alloc o).alloc o2).cell; have e_g1 := fun o => (g1.alloc o).free
    go_wp2_with fail
    refine (CK.out _ (H.out.below B)).mono ?_
    rintro e wa2 ⟨rfl, b⟩
    try clear c_g1 f_g1 a_g1 d_g1 e_g1
    replace g1 := g1.below b; have c_g1 := g1.cell; have f_g1 := g1.free; have a_g1 := fun o => (g1.alloc o).cell; have d_g1 := fun o o2 => ((g1.alloc o).alloc o2).cell; have e_g1 := fun o => (g1.alloc o).free; replace B := B.trans (b.mono B.size); clear b
    go_wp2_with fail
    refine (RT.out _ (H.out.below B)).mono ?_
    rintro e wa3 ⟨rfl, b⟩
    try clear c_g1 f_g1 a_g1 d_g1 e_g1
    replace g1 := g1.below b; have c_g1 := g1.cell; have f_g1 := g1.free; have a_g1 := fun o => (g1.alloc o).cell; have d_g1 := fun o o2 => ((g1.alloc o).alloc o2).cell; have e_g1 := fun o => (g1.alloc o).free; replace B := B.trans (b.mono B.size); clear b
    go_wp2
    go_ret2
    exact ⟨rfl, B⟩
set_option maxRecDepth 100000 in
set_option maxHeartbeats 2000000 in
theorem Drop23_any (v : Value) (l : List UInt64) (sl g : Int) (E : List (Int × UInt64)) (r : Int) (hx : E = diL l sl g) (hr : r = askI l sl g) (w : World) (h : Words w v l) :
    Calls Tryz.prog 14 #[v, .agg #[.int .i64 sl, .int .i64 g]] w fun e w' => ∃ y, e = .returned (.tuple #[y, .int .i64 r]) ∧ OwnE w' w.heap.size y E ∧ Below w.heap.size w w' := by
  have B : Below w.heap.size w w := Below.refl _ _
  have H := Lib.hid h
  obtain ⟨p, hp⟩ : ∃ c, c = atI l sl g := ⟨_, rfl⟩
  have OT := Lib.hid (fun w h => open23_any v l sl g p r hp hr w h)
  by_cases h0 : r = 0
  case neg =>
    obtain rfl : E = [] := by rw [hx, diL, if_neg (by rw [← hr]; exact h0)]
    have n1 : (r != 0) = true := by rw [bne_iff_ne]; exact h0
    clear hx hr h hp h0
    go_enter Tryz.func14, Tryz.ntmps14
    go_upto_region 1 with (fail)
    refine wp_gen (fun Wv => Bx Wv (w.heap.size) (39) (#[.int .i64 sl, .int .i64 g]) ∧ Below w.heap.size w Wv) ⟨((Bx.at_ (by simp))), ((Below.refl _ w).alloc (by simp <;> omega) _)⟩ ?_
    rintro wa1 ⟨g1, b⟩
    replace B := B.trans (b.mono B.size); clear b
    have c_g1 := g1.cell; have f_g1 := g1.free; have a_g1 := fun o => (g1.alloc o).cell; have d_g1 := fun o o2 => ((g1.alloc o).alloc o2).cell; have e_g1 := fun o => (g1.alloc o).free
    go_wp2_with fail
    refine (OT.out _ (H.out.below B)).mono ?_
    rintro e wa2 ⟨rfl, b⟩
    try clear c_g1 f_g1 a_g1 d_g1 e_g1
    replace g1 := g1.below b; have c_g1 := g1.cell; have f_g1 := g1.free; have a_g1 := fun o => (g1.alloc o).cell; have d_g1 := fun o o2 => ((g1.alloc o).alloc o2).cell; have e_g1 := fun o => (g1.alloc o).free; replace B := B.trans (b.mono B.size); clear b
    go_wp2
    go_ret2
    exact ⟨_, rfl, OwnE.nil _ _, B⟩
  case pos =>
    subst h0
    obtain ⟨ea, hea⟩ : ∃ c, c = dropAt l sl g := ⟨_, rfl⟩
    obtain ⟨ev, hev⟩ : ∃ c, c = dropVal l sl g := ⟨_, rfl⟩
    have DT := Lib.hid (fun w h => Drop18_any v l sl g ea ev 0 hea hev (ask_res hr.symm).symm w h)
    obtain rfl : E = [(ea, ev)] := by rw [hx, diL, if_pos hr.symm, hea, hev]
    clear hx hr h hp hea hev
    go_enter Tryz.func14, Tryz.ntmps14
    go_upto_region 1 with (fail)
    refine wp_gen (fun Wv => Bx Wv (w.heap.size) (39) (#[.int .i64 sl, .int .i64 g]) ∧ Below w.heap.size w Wv) ⟨((Bx.at_ (by simp))), ((Below.refl _ w).alloc (by simp <;> omega) _)⟩ ?_
    rintro wa1 ⟨g1, b⟩
    replace B := B.trans (b.mono B.size); clear b
    have c_g1 := g1.cell; have f_g1 := g1.free; have a_g1 := fun o => (g1.alloc o).cell; have d_g1 := fun o o2 => ((g1.alloc o).alloc o2).cell; have e_g1 := fun o => (g1.alloc o).free
    go_wp2_with fail
    refine (OT.out _ (H.out.below B)).mono ?_
    rintro e wa2 ⟨rfl, b⟩
    try clear c_g1 f_g1 a_g1 d_g1 e_g1
    replace g1 := g1.below b; have c_g1 := g1.cell; have f_g1 := g1.free; have a_g1 := fun o => (g1.alloc o).cell; have d_g1 := fun o o2 => ((g1.alloc o).alloc o2).cell; have e_g1 := fun o => (g1.alloc o).free; replace B := B.trans (b.mono B.size); clear b
    go_wp2_with fail
    refine (DT.out _ (H.out.below B)).mono ?_
    rintro e wa3 ⟨rfl, b⟩
    try clear c_g1 f_g1 a_g1 d_g1 e_g1
    replace g1 := g1.below b; have c_g1 := g1.cell; have f_g1 := g1.free; have a_g1 := fun o => (g1.alloc o).cell; have d_g1 := fun o o2 => ((g1.alloc o).alloc o2).cell; have e_g1 := fun o => (g1.alloc o).free; replace B := B.trans (b.mono B.size); clear b
    go_upto_region 5 with (fail)
    refine wp_gen (fun Wv => Bx Wv (wa3.heap.size) (120) (#[.int .i64 ea, .int .u64 ev.toNat]) ∧ Below wa3.heap.size wa3 Wv) ⟨((Bx.at_ (by simp))), ((Below.refl _ wa3).alloc (by simp <;> omega) _)⟩ ?_
    rintro wa4 ⟨g2, b⟩
    try clear c_g1 f_g1 a_g1 d_g1 e_g1
    replace g1 := g1.below b; have c_g1 := g1.cell; have f_g1 := g1.free; have a_g1 := fun o => (g1.alloc o).cell; have d_g1 := fun o o2 => ((g1.alloc o).alloc o2).cell; have e_g1 := fun o => (g1.alloc o).free; replace B := B.trans (b.mono B.size); clear b
    have c_g2 := g2.cell; have f_g2 := g2.free; have a_g2 := fun o => (g2.alloc o).cell; have d_g2 := fun o o2 => ((g2.alloc o).alloc o2).cell; have e_g2 := fun o => (g2.alloc o).free
    go_wp2
    go_ret2
    exact ⟨_, rfl, ent_own B.size, B.alloc B.size _⟩
set_option maxRecDepth 100000 in
set_option maxHeartbeats 2000000 in
theorem DropR23_any (v : Value) (l : List UInt64) (sl g : Int) (E : List (Int × UInt64)) (r : Int) (hx : E = diL l sl g) (hr : r = askI l sl g) (w : World) (h : Words w v l) :
    Calls Tryz.prog 15 #[v, .agg #[.int .i64 sl, .int .i64 g]] w fun e w' => ∃ y, e = .returned (.tuple #[y, .int .i64 r]) ∧ OwnE w' w.heap.size y E ∧ Below w.heap.size w w' := by
  have B : Below w.heap.size w w := Below.refl _ _
  have H := Lib.hid h
  obtain ⟨p, hp⟩ : ∃ c, c = atI l sl g := ⟨_, rfl⟩
  have OT := Lib.hid (fun w h => AskedR_any v l sl g p r hp hr w h)
  by_cases h0 : r = 0
  case neg =>
    obtain rfl : E = [] := by rw [hx, diL, if_neg (by rw [← hr]; exact h0)]
    have n1 : (r != 0) = true := by rw [bne_iff_ne]; exact h0
    clear hx hr h hp h0
    go_enter Tryz.func15, Tryz.ntmps15
    go_upto_region 1 with (fail)
    refine wp_gen (fun Wv => Bx Wv (w.heap.size) (39) (#[.int .i64 sl, .int .i64 g]) ∧ Below w.heap.size w Wv) ⟨((Bx.at_ (by simp))), ((Below.refl _ w).alloc (by simp <;> omega) _)⟩ ?_
    rintro wa1 ⟨g1, b⟩
    replace B := B.trans (b.mono B.size); clear b
    have c_g1 := g1.cell; have f_g1 := g1.free; have a_g1 := fun o => (g1.alloc o).cell; have d_g1 := fun o o2 => ((g1.alloc o).alloc o2).cell; have e_g1 := fun o => (g1.alloc o).free
    go_wp2_with fail
    refine (OT.out _ (H.out.below B)).mono ?_
    rintro e wa2 ⟨rfl, b⟩
    try clear c_g1 f_g1 a_g1 d_g1 e_g1
    replace g1 := g1.below b; have c_g1 := g1.cell; have f_g1 := g1.free; have a_g1 := fun o => (g1.alloc o).cell; have d_g1 := fun o o2 => ((g1.alloc o).alloc o2).cell; have e_g1 := fun o => (g1.alloc o).free; replace B := B.trans (b.mono B.size); clear b
    go_wp2
    go_ret2
    exact ⟨_, rfl, OwnE.nil _ _, B⟩
  case pos =>
    subst h0
    obtain ⟨ea, hea⟩ : ∃ c, c = dropAt l sl g := ⟨_, rfl⟩
    obtain ⟨ev, hev⟩ : ∃ c, c = dropVal l sl g := ⟨_, rfl⟩
    have DT := Lib.hid (fun w h => DropR18_any v l sl g ea ev 0 hea hev (ask_res hr.symm).symm w h)
    obtain rfl : E = [(ea, ev)] := by rw [hx, diL, if_pos hr.symm, hea, hev]
    clear hx hr h hp hea hev
    go_enter Tryz.func15, Tryz.ntmps15
    go_upto_region 1 with (fail)
    refine wp_gen (fun Wv => Bx Wv (w.heap.size) (39) (#[.int .i64 sl, .int .i64 g]) ∧ Below w.heap.size w Wv) ⟨((Bx.at_ (by simp))), ((Below.refl _ w).alloc (by simp <;> omega) _)⟩ ?_
    rintro wa1 ⟨g1, b⟩
    replace B := B.trans (b.mono B.size); clear b
    have c_g1 := g1.cell; have f_g1 := g1.free; have a_g1 := fun o => (g1.alloc o).cell; have d_g1 := fun o o2 => ((g1.alloc o).alloc o2).cell; have e_g1 := fun o => (g1.alloc o).free
    go_wp2_with fail
    refine (OT.out _ (H.out.below B)).mono ?_
    rintro e wa2 ⟨rfl, b⟩
    try clear c_g1 f_g1 a_g1 d_g1 e_g1
    replace g1 := g1.below b; have c_g1 := g1.cell; have f_g1 := g1.free; have a_g1 := fun o => (g1.alloc o).cell; have d_g1 := fun o o2 => ((g1.alloc o).alloc o2).cell; have e_g1 := fun o => (g1.alloc o).free; replace B := B.trans (b.mono B.size); clear b
    go_wp2_with fail
    refine (DT.out _ (H.out.below B)).mono ?_
    rintro e wa3 ⟨rfl, b⟩
    try clear c_g1 f_g1 a_g1 d_g1 e_g1
    replace g1 := g1.below b; have c_g1 := g1.cell; have f_g1 := g1.free; have a_g1 := fun o => (g1.alloc o).cell; have d_g1 := fun o o2 => ((g1.alloc o).alloc o2).cell; have e_g1 := fun o => (g1.alloc o).free; replace B := B.trans (b.mono B.size); clear b
    go_upto_region 5 with (fail)
    refine wp_gen (fun Wv => Bx Wv (wa3.heap.size) (120) (#[.int .i64 ea, .int .u64 ev.toNat]) ∧ Below wa3.heap.size wa3 Wv) ⟨((Bx.at_ (by simp))), ((Below.refl _ wa3).alloc (by simp <;> omega) _)⟩ ?_
    rintro wa4 ⟨g2, b⟩
    try clear c_g1 f_g1 a_g1 d_g1 e_g1
    replace g1 := g1.below b; have c_g1 := g1.cell; have f_g1 := g1.free; have a_g1 := fun o => (g1.alloc o).cell; have d_g1 := fun o o2 => ((g1.alloc o).alloc o2).cell; have e_g1 := fun o => (g1.alloc o).free; replace B := B.trans (b.mono B.size); clear b
    have c_g2 := g2.cell; have f_g2 := g2.free; have a_g2 := fun o => (g2.alloc o).cell; have d_g2 := fun o o2 => ((g2.alloc o).alloc o2).cell; have e_g2 := fun o => (g2.alloc o).free
    go_wp2
    go_ret2
    exact ⟨_, rfl, ent_own B.size, B.alloc B.size _⟩
end Go.Proofs.YtmbokdnndlnjkaaGreat
namespace Go.Proofs.YtmbokdnndlnjkaaGreat
open Go.RowKit L01 L02 L05 L06 L07 L13 L14 L15 L16 L18 L19
theorem tabB_cons (b : Hb) (L : List Hb) : tabB (b :: L) = bkL b ++ tabB L := by simp [tabB]
theorem tabB_drop : ∀ (L : List Hb) (k : Nat), tabB (L.drop k) = (tabB L).drop (k * 6)
  | L, 0 => by simp
  | [], k + 1 => by simp [tabB]
  | b :: L, k + 1 => by
    rw [List.drop_succ_cons, tabB_drop L k, tabB_cons, show (k + 1) * 6 = (bkL b).length + k * 6 by simp [bkL]; omega, List.drop_append, List.drop_of_length_le (l := bkL b) (by omega), Nat.add_sub_cancel_left, List.nil_append]
theorem tabB_take : ∀ (L : List Hb) (k : Nat), tabB (L.take k) = (tabB L).take (k * 6)
  | L, 0 => by simp [tabB]
  | [], k + 1 => by simp [tabB]
  | b :: L, k + 1 => by
    rw [List.take_succ_cons, tabB_cons, tabB_take L k, tabB_cons, show (k + 1) * 6 = (bkL b).length + k * 6 by simp [bkL]; omega, List.take_append, List.take_of_length_le (l := bkL b) (by omega), Nat.add_sub_cancel_left]
theorem Blks.cut {w : World} {v : Value} {L : List Hb} (h : Blks w v L) {lo hi : Nat} (h1 : lo ≤ hi) (h2 : hi ≤ L.length) :
    ∃ v', (∀ W, (Instr.sliceAt 77 v (some (.int .i64 (lo : Int))) (some (.int .i64 (hi : Int))) none).run Tryz.prog W = .ok v' W) ∧ Blks w v' ((L.drop lo).take (hi - lo)) := by
  obtain ⟨v', r1, _, _, r2, _⟩ := Rd.cutN h Tryz.underlying77 size_block h1 h2
  refine ⟨v', r1, ?_⟩
  unfold Blks
  rw [tabB_take, tabB_drop, List.length_take, List.length_drop, Nat.min_eq_left (by omega)]
  exact r2
/-- the blocks of a list as one free extent -/
def joinB (M : List Hb) : Hb := ⟨(M.getD 0 .none).at_, sumN M, 2, 0, false, 0⟩
theorem sumN_snoc (M : List Hb) (b : Hb) : sumN (M ++ [b]) = sumN M + b.size := by
  induction M with
  | nil => simp [sumN]
  | cons c M ih => rw [List.cons_append, sumN, sumN, ih]; omega
set_option maxRecDepth 100000 in
set_option maxHeartbeats 2000000 in
theorem joined_any (v : Value) (M : List Hb) (b : Hb) (hb : b = joinB M) (hM : 0 < M.length) (hl : M.length ≤ 3) (hs : ∀ c ∈ M, 0 ≤ c.size ∧ c.size ≤ 100000) (w : World) (h : Blks w v M) :
    Calls Tryz.prog 116 #[v] w fun e w' => e = .returned (.agg #[.int .i64 b.at_, .int .i64 b.size, .int .i64 b.kind, .int .i64 b.ty, .bool b.mark, .int .u64 b.next.toNat]) ∧ Below w.heap.size w w' := by
  have B : Below w.heap.size w w := Below.refl _ _
  have H := Lib.hid h
  have lx := h.len
  obtain ⟨N, hN⟩ : ∃ N, N = M.length := ⟨_, rfl⟩
  rw [← hN] at lx hM hl
  obtain ⟨bb, oo, c0, ia, m0, m1, m2, m3, m4, m5, hc0, _⟩ := h.at_ (k := 0) (by omega)
  have ia0 : ∀ W, (Instr.indexAt 77 v (.int .i64 0)).run Tryz.prog W = .ok (.pointer (some ⟨bb, oo, none⟩)) W := ia
  obtain ⟨a0, ha0⟩ : ∃ a, a = c0.at_ := ⟨_, rfl⟩
  rw [← ha0] at m0
  have hb2 : b = ⟨a0, sumN M, 2, 0, false, 0⟩ := by
    rw [hb, joinB, List.getD_eq_getElem?_getD, hc0.out, ha0]; rfl
  have HN := Lib.hid hN; have HS := Lib.hid hs; have HB := Lib.hid hb2
  clear h hN hs hb hb2 ia hc0 ha0 m1 m2 m3 m4 m5
  go_enter Tryz.func116, Tryz.ntmps116
  go_upto_region 1 with (fail)
  refine wp_gen (fun Wv => Bx Wv (w.heap.size) (82) (#[.int .i64 0, .int .i64 0, .int .i64 0, .int .i64 0, .bool false, .int .u64 0]) ∧ Below w.heap.size w Wv) ⟨((Bx.at_ (by simp))), ((Below.refl _ w).alloc (by simp <;> omega) _)⟩ ?_
  rintro wa1 ⟨g1, b⟩
  replace m0 := cell_later b m0; replace B := B.trans (b.mono B.size); clear b
  have c_g1 := g1.cell; have f_g1 := g1.free; have a_g1 := fun o => (g1.alloc o).cell; have d_g1 := fun o o2 => ((g1.alloc o).alloc o2).cell; have e_g1 := fun o => (g1.alloc o).free
  have hp1 := g1.lt
  go_upto_region 2 with (fail)
  refine wp_gen (fun Wv => Bx Wv (wa1.heap.size) (82) (#[.int .i64 a0, .int .i64 0, .int .i64 2, .int .i64 0, .bool false, .int .u64 0]) ∧ Below wa1.heap.size wa1 Wv) ⟨((Bx.at_ (by simp))), ((Below.refl _ wa1).alloc (by simp <;> omega) _)⟩ ?_
  rintro wa2 ⟨g2, b⟩
  replace m0 := cell_later b m0; try clear c_g1 f_g1 a_g1 d_g1 e_g1
  replace g1 := g1.below b; have c_g1 := g1.cell; have f_g1 := g1.free; have a_g1 := fun o => (g1.alloc o).cell; have d_g1 := fun o o2 => ((g1.alloc o).alloc o2).cell; have e_g1 := fun o => (g1.alloc o).free; replace B := B.trans (b.mono B.size); clear b
  have c_g2 := g2.cell; have f_g2 := g2.free; have a_g2 := fun o => (g2.alloc o).cell; have d_g2 := fun o o2 => ((g2.alloc o).alloc o2).cell; have e_g2 := fun o => (g2.alloc o).free
  generalize hpp : wa1.heap.size = p2 at *
  have hpw : w.heap.size < p2 := hp1
  have HI := Lib.hid (And.intro g1 (And.intro g2 B))
  clear g1 g2 B c_g1 f_g1 a_g1 d_g1 e_g1 c_g2 f_g2 a_g2 d_g2 e_g2 m0 hpp hp1
  go_wp2
  clear ia0
  go_loopg [13] N (fun g i wr => ∃ j : Nat, j ≤ N ∧ g = N - j ∧ i = .int .i64 j ∧ Hid (∃ s : Int, s = sumN (M.take j) ∧ 0 ≤ s ∧ s ≤ 100000 * j ∧ Bx wr w.heap.size 82 #[.int .i64 0, .int .i64 0, .int .i64 0, .int .i64 0, .bool false, .int .u64 0] ∧ Bx wr p2 82 #[.int .i64 a0, .int .i64 s, .int .i64 2, .int .i64 0, .bool false, .int .u64 0] ∧ Below w.heap.size w wr))
  case atStart => exact ⟨0, by omega, by omega, rfl, Lib.hid ⟨0, by simp [sumN], by omega, by omega, HI.out⟩⟩
  case round =>
    clear HI
    obtain ⟨j, hj, rfl, rfl, hh⟩ := hrel
    obtain ⟨s, hs, hs0, hs1, g1, g2, B⟩ := hh.out
    by_cases hlt : j < N
    · obtain ⟨bb, oo, c, ia, m0, m1, m2, m3, m4, m5, hc, _⟩ := (Blks.below H.out B).at_ (k := j) (by rw [← HN.out]; exact hlt)
      obtain ⟨z1, z2⟩ := HS.out c (List.mem_of_getElem? hc.out)
      have htk : M.take (j + 1) = M.take j ++ [c] := by rw [List.take_add_one, hc.out]; rfl
      have HT := Lib.hid (show s + c.size = sumN (M.take (j + 1)) by rw [htk, sumN_snoc, ← hs])
      have hw : IntKind.i64.wrap (s + c.size) = s + c.size := IntWalk.i64_in _ (by omega)
      have hB0 := B.size
      have hlt2 := g2.lt
      clear hc htk hs hh
      go_upto_region 5 with (fail)
      refine wp_gen (fun Wv => Bx Wv (wr.heap.size) (82) (#[.int .i64 c.at_, .int .i64 c.size, .int .i64 c.kind, .int .i64 c.ty, .bool c.mark, .int .u64 c.next.toNat]) ∧ Below wr.heap.size wr Wv) ⟨((Bx.at_ (by simp))), ((Below.refl _ wr).alloc (by simp <;> omega) _)⟩ ?_
      rintro wa3 ⟨g3, b⟩
      try clear c_g1 f_g1 a_g1 d_g1 e_g1
      replace g1 := g1.below b; have c_g1 := g1.cell; have f_g1 := g1.free; have a_g1 := fun o => (g1.alloc o).cell; have d_g1 := fun o o2 => ((g1.alloc o).alloc o2).cell; have e_g1 := fun o => (g1.alloc o).free; try clear c_g2 f_g2 a_g2 d_g2 e_g2
      replace g2 := g2.below b; have c_g2 := g2.cell; have f_g2 := g2.free; have a_g2 := fun o => (g2.alloc o).cell; have d_g2 := fun o o2 => ((g2.alloc o).alloc o2).cell; have e_g2 := fun o => (g2.alloc o).free; replace B := B.trans (b.mono B.size); clear b
      have c_g3 := g3.cell; have f_g3 := g3.free; have a_g3 := fun o => (g3.alloc o).cell; have d_g3 := fun o o2 => ((g3.alloc o).alloc o2).cell; have e_g3 := fun o => (g3.alloc o).free
      have hne : p2 ≠ wr.heap.size := by omega
      have HZ := Lib.hid (And.intro g1 (And.intro g2 B))
      go_wp2
      clear c_g1 f_g1 a_g1 d_g1 e_g1 c_g2 f_g2 a_g2 d_g2 e_g2 c_g3 f_g3 a_g3 d_g3 e_g3 m0 m1 m2 m3 m4 m5 ia
      go_roundg (N - (j + 1))
      case measure => omega
      case rel =>
        obtain ⟨g1, g2, B⟩ := HZ.out
        refine ⟨j + 1, by omega, rfl, by go_num, Lib.hid ⟨s + c.size, HT.out, by omega, by omega, g1.far (p := ⟨p2, 1, none⟩) (by show w.heap.size ≠ p2; omega) _, ?_, B.setCell (p := ⟨p2, 1, none⟩) (by show w.heap.size ≤ p2; omega) _⟩⟩
        have := g2.set (i := 1) (.int .i64 (s + c.size))
        simpa using this
    · obtain rfl : j = N := by omega
      have hsM : s = sumN M := by rw [hs, HN.out, List.take_length]
      have c_g1 := g1.cell; have f_g1 := g1.free; have c_g2 := g2.cell
      have HSM := Lib.hid hsM
      clear hs hsM hh
      go_wp2
      refine bodyPost_ret (v := .agg #[.int .i64 a0, .int .i64 s, .int .i64 2, .int .i64 0, .bool false, .int .u64 0]) (by simp [results, Tryz.results116, go_sem, c_g1, f_g1]) rfl ?_
      refine ⟨by rw [HB.out, HSM.out]; rfl, ?_⟩
      (repeat (first | refine Below.setCell ?_ (by first | exact Nat.le_refl _ | (simp <;> omega)) _ | refine Below.alloc ?_ (by first | exact B.size | (have := B.size; simp <;> omega)) _)); exact B
/-- what becomes of an object, by the joined blocks -/
theorem join_becomes {L : List Hb} {i : Nat} {b : Hb} (hb : L[i]? = some b) (hk : b.kind = 1) (lo hi : Nat) (hlo : lo = if lowF L i = true then i - 1 else i) (hhi : hi = if highF L i = true then i + 1 else i) :
    joinB ((L.drop lo).take (hi + 1 - lo)) = becomes L i ∧ lo ≤ i ∧ i ≤ hi ∧ hi < L.length ∧ hi + 1 - lo ≤ 3 := by
  have hil := (List.getElem?_eq_some_iff.1 hb).1
  have hgb : L.getD i .none = b := by rw [List.getD_eq_getElem?_getD, hb]; rfl
  have hlow : lowF L i = true → 0 < i ∧ ∃ f, L[i - 1]? = some f ∧ L.getD (i - 1) .none = f := fun h => by
    unfold lowF at h
    rw [Bool.and_eq_true, decide_eq_true_iff] at h
    have : i - 1 < L.length := by omega
    exact ⟨h.1, L[i - 1], List.getElem?_eq_getElem this, by rw [List.getD_eq_getElem?_getD, List.getElem?_eq_getElem this]; rfl⟩
  have hhigh : highF L i = true → i + 1 < L.length ∧ ∃ f, L[i + 1]? = some f ∧ L.getD (i + 1) .none = f := fun h => by
    unfold highF at h
    rw [decide_eq_true_iff] at h
    by_cases hl : i + 1 < L.length
    · exact ⟨hl, L[i + 1], List.getElem?_eq_getElem hl, by rw [List.getD_eq_getElem?_getD, List.getElem?_eq_getElem hl]; rfl⟩
    · rw [List.getD_eq_getElem?_getD, List.getElem?_eq_none (by omega)] at h
      exact absurd h (by decide)
  have d1 : ∀ {k : Nat} {c : Hb}, L[k]? = some c → L.drop k = c :: L.drop (k + 1) := fun {k c} h => by
    obtain ⟨h1, h2⟩ := List.getElem?_eq_some_iff.1 h
    rw [List.drop_eq_getElem_cons h1, h2]
  cases h1 : lowF L i <;> cases h2 : highF L i
  · rw [h1] at hlo; rw [h2] at hhi
    simp only [Bool.false_eq_true, if_false] at hlo hhi
    subst hlo; subst hhi
    refine ⟨?_, by omega, by omega, by omega, by omega⟩
    rw [show hi + 1 - hi = 1 by omega, d1 hb]
    unfold becomes
    rw [h1, h2, hgb]
    simp [joinB, sumN]
  · rw [h1] at hlo; rw [h2] at hhi
    simp only [Bool.false_eq_true, if_false, if_true] at hlo hhi
    obtain ⟨a1, f, a2, a3⟩ := hhigh h2
    subst hlo; subst hhi
    refine ⟨?_, by omega, by omega, by omega, by omega⟩
    rw [show lo + 1 + 1 - lo = 2 by omega, d1 hb, d1 a2]
    unfold becomes
    rw [h1, h2, hgb, a3]
    simp [joinB, sumN]
  · rw [h1] at hlo; rw [h2] at hhi
    simp only [Bool.false_eq_true, if_false, if_true] at hlo hhi
    obtain ⟨a1, f, a2, a3⟩ := hlow h1
    subst hlo; subst hhi
    refine ⟨?_, by omega, by omega, by omega, by omega⟩
    rw [show hi + 1 - (hi - 1) = 2 by omega, d1 a2, show hi - 1 + 1 = hi by omega, d1 hb]
    unfold becomes
    rw [h1, h2, hgb, a3]
    simp [joinB, sumN]; omega
  · rw [h1] at hlo; rw [h2] at hhi
    simp only [if_true] at hlo hhi
    obtain ⟨a1, f, a2, a3⟩ := hlow h1
    obtain ⟨a4, f', a5, a6⟩ := hhigh h2
    subst hlo; subst hhi
    refine ⟨?_, by omega, by omega, by omega, by omega⟩
    rw [show i + 1 + 1 - (i - 1) = 3 by omega, d1 a2, show i - 1 + 1 = i by omega, d1 hb, d1 a5]
    unfold becomes
    rw [h1, h2, hgb, a3, a6]
    simp [joinB, sumN]; omega
end Go.Proofs.YtmbokdnndlnjkaaGreat
