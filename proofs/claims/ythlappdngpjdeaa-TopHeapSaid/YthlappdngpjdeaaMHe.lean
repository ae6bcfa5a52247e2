/- Contracts of the functions that the laws 'H' reach, part 5. No condition. -/
import Derived.Test.YthlappdngpjdeaaMHd
set_option linter.unusedVariables false
set_option linter.unusedSimpArgs false
namespace Go.Proofs.Ythlappdngpjdeaa.L71
open L02 L14 L15 L16 L18 L19 L19
/-- each block has the first word that layer 14 gives it -/
theorem th_block {l : List UInt64} (h : allErr l = 0) {i : Nat} {b : Hb} (hb : (allL l)[i]? = some b) : hErr b = 0 ∧ ∃ a : Nat, b.at_ = a ∧ 128 ≤ a ∧ a < l.length ∧ a % 2 = 0 ∧ l[a]? = some (word b) := by
  obtain ⟨a, h1, h2, h3, rfl, h5⟩ := all_mem h (List.mem_of_getElem? hb)
  refine ⟨hErr_ok (stand_ok h3), a, rfl, h1, h2, h5, ?_⟩
  rw [stand_word h3, List.getD_eq_getElem?_getD, List.getElem?_eq_getElem h2]; rfl
theorem findB_idx : ∀ {L : List Hb} {a : Int} {b : Hb}, findB L a = some b → ∃ i : Nat, L[i]? = some b ∧ b.at_ = a ∧ ∀ (j : Nat) c, j < i → L[j]? = some c → c.at_ ≠ a
  | [], a, b, h => by simp [findB] at h
  | c :: L, a, b, h => by
    unfold findB at h
    rw [List.find?_cons] at h
    by_cases hc : c.at_ = a
    · rw [decide_eq_true hc] at h
      injection h with h; subst h
      exact ⟨0, rfl, hc, fun j _ hj => by omega⟩
    · rw [decide_eq_false hc] at h
      obtain ⟨i, h1, h2, h3⟩ := findB_idx (L := L) (a := a) (b := b) h
      refine ⟨i + 1, h1, h2, fun j d hj hd => ?_⟩
      rcases j with _ | j
      · injection hd with hd; subst hd; exact hc
      · exact h3 j d (by omega) hd
theorem find_idx {l : List UInt64} {a : Int} (h : findErr l a = 0) : allErr l = 0 ∧ ∃ i : Nat, (allL l)[i]? = some (find l a) ∧ (find l a).at_ = a ∧ ∀ (j : Nat) c, j < i → (allL l)[j]? = some c → c.at_ ≠ a := by
  have h0 : allErr l = 0 := by
    rw [findErr] at h
    by_cases h0 : allErr l = 0
    · exact h0
    · rw [if_neg h0] at h; exact absurd h h0
  refine ⟨h0, ?_⟩
  have h1 : (findB (allL l) a).isSome = true := by
    rw [findErr, if_pos h0] at h
    by_cases hs : (findB (allL l) a).isSome = true
    · exact hs
    · rw [if_neg hs] at h; cases h
  obtain ⟨b, hb⟩ := Option.isSome_iff_exists.1 h1
  have e : find l a = b := by rw [find, if_pos h, hb]; rfl
  rw [e]
  exact findB_idx hb
theorem objIdx_found : ∀ {L : List Hb} {a : Int} {i k : Nat} {b : Hb}, L[i]? = some b → b.at_ = a → b.kind = 1 → (∀ (j : Nat) c, j < i → L[j]? = some c → c.at_ ≠ a) → objIdx L a k = some (k + i)
  | [], _, _, _, _, h, _, _, _ => by simp at h
  | c :: L, a, i, k, b, h, ha, hk, hf => by
    rw [objIdx]
    rcases i with _ | i
    · injection h with h; subst h
      rw [if_pos ⟨ha, hk⟩]; rfl
    · have hc := hf 0 c (by omega) rfl
      rw [if_neg (fun x => hc x.1), objIdx_found (i := i) (b := b) h ha hk (fun j d hj hd => hf (j + 1) d (by omega) hd)]
      congr 1; omega
/-- what an object would become is a block that the heap has when it is written -/
theorem th_becomes {l : List UInt64} {a : Int} (h : findErr l a = 0) (hk : (find l a).kind = 1) : arErr l a = 0 ∧ hErr (around l a) = 0 ∧ ∃ p : Nat, (around l a).at_ = p ∧ 128 ≤ p ∧ (p : Int) + (around l a).size ≤ l.length ∧ p + 1 < l.length ∧
    findErr ((l.set p (word (around l a))).set (p + 1) 0) p = 0 ∧ find ((l.set p (word (around l a))).set (p + 1) 0) p = around l a := by
  obtain ⟨h0, i, hb, hat, hfirst⟩ := find_idx h
  have hoi := objIdx_found (k := 0) hb hat hk hfirst
  rw [Nat.zero_add] at hoi
  have har : arErr l a = 0 := by rw [arErr, if_pos h0, hoi]; rfl
  have hbe : around l a = becomes (allL l) i := by rw [around, if_pos har, hoi]; rfl
  obtain ⟨P, lo, hi, S, p, q, hcut, hp, hsz, hok, hlo, hhi, hl1, hl2, hna, hiP, hp128, hpb, hbq, hql⟩ := merge_part h0 hb hk
  obtain ⟨hs, _⟩ := allErr_ok h0
  have hpq := hcut.s2.le
  have hsz2 : 2 ≤ (becomes (allL l) i).size := hok.1.1
  refine ⟨har, by rw [hbe]; exact hErr_ok hok, p, by rw [hbe]; exact hp, hp128, by rw [hbe, hsz]; omega, by omega, ?_⟩
  rw [hbe]
  obtain ⟨B, hB⟩ : ∃ B, B = becomes (allL l) i := ⟨_, rfl⟩
  rw [← hB] at hp hsz hok hsz2 ⊢
  have hlen : ((l.set p (word B)).set (p + 1) 0).length = l.length := by simp
  have g0 : ((l.set p (word B)).set (p + 1) 0).getD p 0 = word B := by
    rw [List.getD_eq_getElem?_getD, List.getElem?_set_ne (by omega), List.getElem?_set_self (by omega)]; rfl
  have g1 : ((l.set p (word B)).set (p + 1) 0).getD (p + 1) 0 = 0 := by
    rw [List.getD_eq_getElem?_getD, List.getElem?_set_self (by rw [List.length_set]; omega)]; rfl
  have hnext : B.next = 0 := by rw [hB]; rfl
  have hseg : Seg ((l.set p (word B)).set (p + 1) 0) p [B] q := Seg.put hok g0 hp (by rw [hnext, g1]) (by omega) (by rw [hlen]; omega)
  obtain ⟨e1, e2, e3⟩ := Cut.new hs hcut hlen (fun j hj hj2 => by
    rw [List.getD_eq_getElem?_getD, List.getElem?_set_ne (by omega), List.getElem?_set_ne (by omega), ← List.getD_eq_getElem?_getD]) hseg (hna B)
  have hfb : findB (P ++ ([B] ++ S)) (p : Int) = some B := by
    unfold findB
    rw [List.find?_append, List.find?_eq_none.2 (fun c hc => ?_)]
    · simp [hp]
    · obtain ⟨x1, x2, x3⟩ := e3.s1.bound hc
      simp only [decide_eq_true_iff]
      omega
  have hfe : findErr ((l.set p (word B)).set (p + 1) 0) (p : Int) = 0 := by rw [findErr, if_pos e1, e2, hfb]; rfl
  exact ⟨hfe, by rw [find, if_pos hfe, e2, hfb]; rfl⟩
/-- a new handle for an object is right for it -/
theorem th_handled {l : List UInt64} {a : Int} (hs : SizeOk l.length) (h : findErr l a = 0) : L18.newErr l a = 23 ∨ L18.newErr l a = 50 ∨ (L18.newErr l a = 0 ∧ ∃ k : Nat, k < 16 ∧ newAt l a = 112 + (k : Int) ∧
    resErr (l.set (112 + k) (newVal l a)) (newSlot l a) (newGen l a) = 0 ∧ res (l.set (112 + k) (newVal l a)) (newSlot l a) (newGen l a) = a ∧ findErr (l.set (112 + k) (newVal l a)) a = 0 ∧ find (l.set (112 + k) (newVal l a)) a = find l a) := by
  obtain ⟨h0, i, hb, hat, hfirst⟩ := find_idx h
  obtain ⟨_, n, hn, hn1, hn2, _, _⟩ := th_block h0 hb
  rw [hat] at hn
  have hl : l.length ≤ 2048 := by have := hs.2.1; omega
  by_cases ho : openErr l = 0
  · have hr : 128 ≤ a ∧ a < 2048 := by omega
    by_cases hx : next (slots l) = none
    · left; rw [L18.newErr, if_pos ho, if_pos hr, if_pos hx]
    · right; right
      have hne : L18.newErr l a = 0 := by rw [L18.newErr, if_pos ho, if_pos hr, if_neg hx]
      obtain ⟨k, s, hk, hks, hu, hg, hR, hR2, e1, e2, e3, e4, _⟩ := new_spec hne
      refine ⟨hne, k, hk, e3, ?_⟩
      obtain ⟨hseg, hna⟩ := seg_of_all h0
      have hsp : spl (newVal l a) = ⟨s.gen + 1, true, a⟩ := by rw [e4, spl_pk hR2]
      have hlen : (l.set (112 + k) (newVal l a)).length = l.length := List.length_set ..
      have ho2 : openErr (l.set (112 + k) (newVal l a)) = 0 := openErr_set ho hk (by rw [hsp]; exact hR2)
      obtain ⟨r1, r2⟩ := resErr_at ho2 (by rw [set_at ho hk, hsp]) (s.gen + 1)
      have hseg2 : Seg (l.set (112 + k) (newVal l a)) 128 (allL l) (l.set (112 + k) (newVal l a)).length := by
        rw [hlen]
        exact hseg.congr hlen (fun j h1 h2 => by rw [List.getD_eq_getElem?_getD, List.getElem?_set_ne (by omega), ← List.getD_eq_getElem?_getD])
      obtain ⟨x1, x2⟩ := all_of_seg (by rw [hlen]; exact hs) hseg2 hna
      have hfe : findErr (l.set (112 + k) (newVal l a)) a = 0 := by rw [findErr, if_pos x1, x2]; rw [findErr, if_pos h0] at h; exact h
      rw [e1, e2]
      exact ⟨by rw [r1, if_pos ⟨rfl, rfl⟩], r2 rfl rfl, hfe, by rw [find, if_pos hfe, x2, find, if_pos h]⟩
  · right; left
    rw [L18.newErr, if_neg ho, openErr, if_pos hs]
    rw [openErr, if_pos hs] at ho
    by_cases hA : AllR l
    · rw [if_pos hA] at ho; exact absurd rfl ho
    · rw [if_neg hA]
end Go.Proofs.Ythlappdngpjdeaa.L71
namespace Go.Proofs.Ythlappdngpjdeaa.L71
open L02 L14 L15 L16 L18 L19
/-- the class of a free extent -/
def clsB (b : Hb) : Nat := Lib.bitLen b.size.toNat - 1
def listB (F : List Hb) (k : Nat) : List Int := (F.filter fun b => decide (clsB b = k)).map fun b => b.at_
def listsB (F : List Hb) : List (List Int) := (List.range 11).map (listB F)
theorem listB_snoc (F : List Hb) (b : Hb) (k : Nat) : listB (F ++ [b]) k = if clsB b = k then listB F k ++ [b.at_] else listB F k := by
  unfold listB
  rw [List.filter_append, List.map_append]
  by_cases h : clsB b = k <;> simp [h]
theorem listsB_len (F : List Hb) : (listsB F).length = 11 := by simp [listsB]
theorem listsB_at (F : List Hb) {k : Nat} (hk : k < 11) : (listsB F)[k]? = some (listB F k) := by
  simp [listsB, hk]
theorem listsB_nil : listsB [] = List.replicate 11 [] := by decide +kernel
theorem listsB_snoc {F : List Hb} {b : Hb} (h : clsB b < 11) : listsB (F ++ [b]) = (listsB F).set (clsB b) (listB F (clsB b) ++ [b.at_]) := by
  apply List.ext_getElem?
  intro k
  by_cases hk : k < 11
  · rw [listsB_at _ hk, listB_snoc]
    by_cases e : clsB b = k
    · subst e
      rw [if_pos rfl, List.getElem?_set_self (by rw [listsB_len]; exact hk)]
    · rw [if_neg e, List.getElem?_set_ne e, listsB_at _ hk]
  · rw [List.getElem?_eq_none (by rw [listsB_len]; omega), List.getElem?_eq_none (by rw [List.length_set, listsB_len]; omega)]
/-- the lists from k on hold so many -/
def countB (F : List Hb) : Nat → Nat
  | 0 => 0
  | k + 1 => countB F k + (listB F k).length
theorem filter_split (F : List Hb) (k : Nat) : (F.filter fun b => decide (clsB b < k + 1)).length = (F.filter fun b => decide (clsB b < k)).length + (F.filter fun b => decide (clsB b = k)).length := by
  induction F with
  | nil => rfl
  | cons b F ih =>
    simp only [List.filter_cons]
    by_cases h1 : clsB b < k
    · have h2 : clsB b < k + 1 := by omega
      have h3 : ¬ clsB b = k := by omega
      simp only [h1, h2, h3, decide_true, decide_false, if_true, List.length_cons, Bool.false_eq_true, if_false]; omega
    · by_cases h3 : clsB b = k
      · subst h3
        simp only [Nat.lt_irrefl, Nat.lt_succ_self, decide_true, decide_false, if_true, List.length_cons, Bool.false_eq_true, if_false]; omega
      · have h2 : ¬ clsB b < k + 1 := by omega
        simp only [h1, h2, h3, decide_true, decide_false, if_true, List.length_cons, Bool.false_eq_true, if_false]; omega
theorem countB_lt (F : List Hb) (k : Nat) : countB F k = (F.filter fun b => decide (clsB b < k)).length := by
  induction k with
  | zero => rw [countB, List.filter_eq_nil_iff.2 (fun b _ => by simp)]; rfl
  | succ k ih => rw [countB, ih, listB, List.length_map, filter_split]
theorem countB_all {F : List Hb} (h : ∀ b ∈ F, clsB b < 11) : countB F 11 = F.length := by
  rw [countB_lt, List.filter_eq_self.2 (fun b hb => decide_eq_true (h b hb))]
theorem listB_mem {F : List Hb} {b : Hb} (h : b ∈ F) : b.at_ ∈ listB F (clsB b) := List.mem_map.2 ⟨b, List.mem_filter.2 ⟨h, by simp⟩, rfl⟩
theorem listB_le (F : List Hb) (k : Nat) : (listB F k).length ≤ F.length := by rw [listB, List.length_map]; exact List.length_filter_le _ _
theorem bitLen_small : ∀ m : Fin 8, Lib.bitLen m.val ≤ 3 := by decide +kernel
theorem bitLen_11 {n : Nat} (h : 2 ≤ n) (h2 : n ≤ 1920) : 2 ≤ Lib.bitLen n ∧ Lib.bitLen n ≤ 11 := by
  have h1 := Lib.bitLen_half n (by omega) (by omega)
  have h3 := Lib.bitLen_half (n / 2) (by omega) (by omega)
  by_cases h8 : n < 256
  · have := Lib.bitLen_le8' (n : Int) (by omega) (by omega)
    rw [Int.toNat_natCast] at this
    omega
  · have e := Lib.bitLen_shift8 n (by omega) (by omega)
    have := bitLen_small ⟨n / 256, by omega⟩
    dsimp only at this
    omega
theorem clsB_bd {b : Hb} (h : 2 ≤ b.size ∧ b.size ≤ 1920) : 1 ≤ clsB b ∧ clsB b ≤ 10 ∧ (Lib.bitLen b.size.toNat : Int) - 1 = clsB b := by
  have := bitLen_11 (n := b.size.toNat) (by omega) (by omega)
  unfold clsB
  omega
end Go.Proofs.Ythlappdngpjdeaa.L71
namespace Go.Proofs.Ythlappdngpjdeaa
open Go.RowKit L02
/-- a row of rows of the call's own, which lie apart -/
def OwnLL (w : World) (B : Nat) (v : Value) (L : List (List Int)) : Prop := ∃ vs : List Value, vs.length = L.length ∧ w.ownsRow B 51 1 v L.length vs ∧ (∀ (i : Nat) x l, vs[i]? = some x → L[i]? = some l → OwnI w B 3 x l) ∧
  ∀ (i j : Nat) x y, i ≠ j → vs[i]? = some x → vs[j]? = some y → x.ownBlock = none ∨ x.ownBlock ≠ y.ownBlock
theorem OwnLL.below {w w' : World} {B : Nat} {v : Value} {L : List (List Int)} (h : OwnLL w B v L) (hb : Below w.heap.size w w') : OwnLL w' B v L := by
  obtain ⟨vs, h1, h2, h3, h4⟩ := h; exact ⟨vs, h1, own_below h2 hb, fun i x l e1 e2 => OwnI.below (h3 i x l e1 e2) hb, h4⟩
theorem OwnLL.mono {w : World} {B B' : Nat} {v : Value} {L : List (List Int)} (h : OwnLL w B v L) (hb : B' ≤ B) : OwnLL w B' v L := by
  obtain ⟨vs, h1, h2, h3, h4⟩ := h; exact ⟨vs, h1, own_mono h2 hb, fun i x l e1 e2 => own_mono (h3 i x l e1 e2) hb, h4⟩
theorem OwnLL.len {w : World} {B : Nat} {v : Value} {L : List (List Int)} (h : OwnLL w B v L) : ∀ ty W, (Builtin.len_ #[30] ty #[v]).run Try.prog W = .ok (.int .i64 (L.length : Int)) W := by
  obtain ⟨vs, h1, h2, _⟩ := h; exact Rd.len (Rd.of_own h2) Try.underlying30
theorem size_ints : (Try.prog.info? 51).map (·.size) = some 1 := by kernel_rfl
theorem info_ints : (Try.prog.info? 51).map (fun i => (i.zero, i.size, i.bytes)) = some (some (.slice none 0 0), 1, 24) := by kernel_rfl
/-- one of the rows -/
theorem OwnLL.at_ {w : World} {B : Nat} {v : Value} {L : List (List Int)} (h : OwnLL w B v L) {k : Nat} (hk : k < L.length) : ∃ gs x l, v.ownBlock = some gs ∧ (∀ W, (Instr.indexAt 30 v (.int .i64 (k : Int))).run Try.prog W = .ok (.pointer (some ⟨gs, k, none⟩)) W) ∧
    w.cell? ⟨gs, k, none⟩ = some x ∧ w.frozen? ⟨gs, k, none⟩ = false ∧ B ≤ gs ∧ gs < w.heap.size ∧ Hid (L[k]? = some l) ∧ OwnI w B 3 x l ∧
    ∀ (V w1 : World) (l' : List Int) (x' : Value), Below w.heap.size w V → V.grownBy w1 x.ownBlock → OwnI w1 B 3 x' l' → (∀ g, x'.ownBlock = some g → x.ownBlock = some g ∨ w.heap.size ≤ g) →
      OwnLL (w1.setCell ⟨gs, k, none⟩ x') B v (L.set k l') ∧ w1.cell? ⟨gs, k, none⟩ = some x ∧ w1.frozen? ⟨gs, k, none⟩ = false := by
  obtain ⟨vs, h1, h2, h3, h4⟩ := h
  obtain ⟨gs, cap, cur, rfl, hB, hg, hnc, hcm, hcs, htake⟩ := own_form h2 (by omega)
  have hix := fun W => Rd.ixN (P := Try.prog) (Rd.of_own h2) Try.underlying30 size_ints hk W
  have hvk : vs[k]? = some vs[k] := List.getElem?_eq_getElem (by omega)
  have hlk : L[k]? = some L[k] := List.getElem?_eq_getElem hk
  have hc := Rd.cell (Rd.of_own h2) (j := k) (u := vs[k]) hvk
  have hx := h3 k _ _ hvk hlk
  refine ⟨gs, vs[k], L[k], rfl, fun W => by have := hix W; simpa [cellAt] using this, by simpa [cellAt] using hc, h2.frozenAt k, hB, (World.ownsRow.lt h2 gs rfl).2, Lib.hid hlk, hx, fun V w1 l' x' hb hgr hx' hfr => ?_⟩
  have hxV : OwnI V B 3 vs[k] L[k] := OwnI.below hx hb
  have oV := own_below h2 hb
  have hne : (Value.slice (some ⟨gs, 0, none⟩) L.length cap).ownBlock = none ∨ (Value.slice (some ⟨gs, 0, none⟩) L.length cap).ownBlock ≠ vs[k].ownBlock := own_unlike oV hxV (by decide)
  have o1 := World.ownsRow.kept oV hgr hne
  have c1 := Rd.cell (Rd.of_own o1) (j := k) (u := vs[k]) hvk
  have st := World.ownsRow.stored o1 k x'
  have lt : ∀ (i : Nat) y, vs[i]? = some y → ∀ g, y.ownBlock = some g → g < w.heap.size := fun i y hy g hyg => by
    have hil : i < L.length := by rw [← h1]; exact (List.getElem?_eq_some_iff.1 hy).1
    exact (World.ownsRow.lt (h3 i y _ hy (List.getElem?_eq_getElem hil)) g hyg).2
  refine ⟨⟨vs.set k x', by simp [h1], ?_, fun i y l e1 e2 => ?_, fun i j y z hij e1 e2 => ?_⟩, by simpa [cellAt] using c1, o1.frozenAt k⟩
  · rw [List.length_set]; exact st.1
  · by_cases hik : i = k
    · subst hik
      rw [List.getElem?_set_self (by omega)] at e1; injection e1 with e1; subst e1
      rw [List.getElem?_set_self hk] at e2; injection e2 with e2; subst e2
      exact World.ownsRow.kept hx' st.2 (by simpa [Value.ownBlock] using own_unlike hx' o1 (by decide))
    · rw [List.getElem?_set_ne (Ne.symm hik)] at e1 e2
      have hy := h3 i y l e1 e2
      have hyV : OwnI V B 3 y l := OwnI.below hy hb
      have hy1 := World.ownsRow.kept hyV hgr (h4 i k y _ hik e1 hvk)
      exact World.ownsRow.kept hy1 st.2 (by simpa [Value.ownBlock] using own_unlike hy1 o1 (by decide))
  · by_cases hik : i = k
    · subst hik
      rw [List.getElem?_set_self (by omega)] at e1; injection e1 with e1; subst e1
      rw [List.getElem?_set_ne hij] at e2
      cases hxb : x'.ownBlock with
      | none => exact .inl rfl
      | some g =>
        refine .inr (fun e => ?_)
        rcases hfr g hxb with h | h
        · rcases h4 i j _ z hij hvk e2 with h5 | h5
          · rw [h5] at h; cases h
          · exact h5 (h.trans e)
        · have := lt j z e2 g e.symm; omega
    · rw [List.getElem?_set_ne (Ne.symm hik)] at e1
      by_cases hjk : j = k
      · subst hjk
        rw [List.getElem?_set_self (by omega)] at e2; injection e2 with e2; subst e2
        cases hyb : y.ownBlock with
        | none => exact .inl rfl
        | some g =>
          refine .inr (fun e => ?_)
          rcases hfr g e.symm with h | h
          · rcases h4 i j y _ hij e1 hvk with h5 | h5
            · rw [h5] at hyb; cases hyb
            · exact h5 (hyb.trans h.symm)
          · have := lt i y e1 g hyb; omega
      · rw [List.getElem?_set_ne (Ne.symm hjk)] at e2
        exact h4 i j y z hij e1 e2
/-- rows that are all nil -/
theorem OwnLL.nils {w : World} {B n : Nat} {v : Value} (h : w.ownsRow B 51 1 v n (List.replicate n (.slice none 0 0))) : OwnLL w B v (List.replicate n []) := by
  refine ⟨List.replicate n (.slice none 0 0), by simp, by rw [List.length_replicate]; exact h, fun i x l e1 e2 => ?_, fun i j x y hij e1 e2 => ?_⟩
  · have e1 := List.eq_of_mem_replicate (List.mem_of_getElem? e1); have e2 := List.eq_of_mem_replicate (List.mem_of_getElem? e2)
    subst e1; subst e2; exact OwnI.nil _ _ _
  · have e1 := List.eq_of_mem_replicate (List.mem_of_getElem? e1)
    subst e1; exact .inl rfl
end Go.Proofs.Ythlappdngpjdeaa
namespace Go.Proofs.Ythlappdngpjdeaa.L01
/-- the bits of w from f on, k of them -/
def val (w f k : Nat) : Nat := w / 2 ^ f % 2 ^ k
/-- w with those bits set to v's -/
def wth (w f k v : Nat) : Nat := w / 2 ^ (f + k) * 2 ^ (f + k) + v % 2 ^ k * 2 ^ f + w % 2 ^ f
theorem bit_div (w k : Nat) : w / 2 ^ k / 2 = w / 2 ^ (k + 1) := by rw [Nat.div_div_eq_div_mul, ← Nat.pow_succ]
theorem val_zero (w f : Nat) : val w f 0 = 0 := by simp [val, Nat.mod_one]
theorem val_succ (w f k : Nat) : val w f (k + 1) = val w f k + w / 2 ^ (f + k) % 2 * 2 ^ k := by
  unfold val
  rw [Nat.mod_pow_succ, Nat.div_div_eq_div_mul, ← Nat.pow_add, Nat.mul_comm (2 ^ k)]
theorem val_lt (w f k : Nat) : val w f k < 2 ^ k := Nat.mod_lt _ (Nat.two_pow_pos k)
theorem wth_zero (w f v : Nat) : wth w f 0 v = w := by
  unfold wth
  have := Nat.div_add_mod w (2 ^ f)
  simp [Nat.mod_one]
  rw [Nat.mul_comm]; exact this
theorem low_lt (w f k v : Nat) : v % 2 ^ k * 2 ^ f + w % 2 ^ f < 2 ^ (f + k) := by
  have h1 := Nat.mod_lt v (Nat.two_pow_pos k)
  have h2 := Nat.mod_lt w (Nat.two_pow_pos f)
  rw [Nat.pow_add]
  have h3 : (v % 2 ^ k + 1) * 2 ^ f ≤ 2 ^ k * 2 ^ f := Nat.mul_le_mul_right _ h1
  rw [Nat.add_mul, Nat.mul_comm (2 ^ k)] at h3
  omega
theorem wth_hi (w f k v : Nat) : wth w f k v / 2 ^ (f + k) = w / 2 ^ (f + k) := by
  have h := low_lt w f k v
  unfold wth
  rw [Nat.add_assoc, Nat.mul_comm, Nat.mul_add_div (Nat.two_pow_pos _), Nat.div_eq_of_lt h, Nat.add_zero]
theorem wth_ge (w f k v : Nat) : w / 2 ^ (f + k) % 2 * 2 ^ (f + k) ≤ wth w f k v := by
  unfold wth
  have h1 : w / 2 ^ (f + k) % 2 * 2 ^ (f + k) ≤ w / 2 ^ (f + k) * 2 ^ (f + k) := Nat.mul_le_mul_right _ (Nat.mod_le _ _)
  omega
theorem wth_succ (w f k v : Nat) : wth w f (k + 1) v = wth w f k v - w / 2 ^ (f + k) % 2 * 2 ^ (f + k) + v / 2 ^ k % 2 * 2 ^ (f + k) := by
  have h1 : w / 2 ^ (f + k) = 2 * (w / 2 ^ (f + (k + 1))) + w / 2 ^ (f + k) % 2 := by
    rw [← Nat.add_assoc, ← bit_div]; omega
  have h2 : v % 2 ^ (k + 1) = v % 2 ^ k + v / 2 ^ k % 2 * 2 ^ k := by rw [Nat.mod_pow_succ, Nat.mul_comm (2 ^ k)]
  unfold wth
  rw [h2]
  generalize hq' : w / 2 ^ (f + (k + 1)) = q' at *
  generalize hq : w / 2 ^ (f + k) = q at *
  generalize hb : q % 2 = b at *
  generalize hc : v / 2 ^ k % 2 = c at *
  generalize hr : v % 2 ^ k = r at *
  generalize hs : w % 2 ^ f = s at *
  subst h1
  have e1 : 2 ^ (f + (k + 1)) = 2 * 2 ^ (f + k) := by rw [← Nat.add_assoc, Nat.pow_succ, Nat.mul_comm]
  have e2 : (r + c * 2 ^ k) * 2 ^ f = r * 2 ^ f + c * 2 ^ (f + k) := by rw [Nat.add_mul, Nat.mul_assoc, Nat.pow_add, Nat.mul_comm (2 ^ k)]
  have e3 : q' * (2 * 2 ^ (f + k)) = 2 * (q' * 2 ^ (f + k)) := by rw [Nat.mul_left_comm]
  have e4 : (2 * q' + b) * 2 ^ (f + k) = 2 * (q' * 2 ^ (f + k)) + b * 2 ^ (f + k) := by rw [Nat.add_mul, Nat.mul_assoc]
  rw [e1, e2, e3, e4]
  omega
theorem wth_lt {w f k v : Nat} (hw : w < 2 ^ 64) (h : f + k ≤ 64) : wth w f k v < 2 ^ 64 := by
  have h1 := low_lt w f k v
  unfold wth
  have h2 : w / 2 ^ (f + k) < 2 ^ (64 - (f + k)) := by
    rw [Nat.div_lt_iff_lt_mul (Nat.two_pow_pos _), ← Nat.pow_add]
    rw [show 64 - (f + k) + (f + k) = 64 by omega]; exact hw
  have h3 : (w / 2 ^ (f + k) + 1) * 2 ^ (f + k) ≤ 2 ^ (64 - (f + k)) * 2 ^ (f + k) := Nat.mul_le_mul_right _ h2
  rw [← Nat.pow_add, show 64 - (f + k) + (f + k) = 64 by omega, Nat.add_mul] at h3
  omega
end Go.Proofs.Ythlappdngpjdeaa.L01
namespace Go.Proofs.Ythlappdngpjdeaa
open Go.RowKit L01
theorem bit_any (x i r : Nat) (hr : r = x / 2 ^ i % 2) (w : World) (hx : x < 18446744073709551616) (hi : i ≤ 64) :
    Calls Try.prog 53 #[.int .u64 (x : Int), .int .i64 (i : Int)] w fun e w' => e = .returned (.int .u64 (r : Int)) ∧ w = w' := by
  have HR := Lib.hid hr; clear hr
  go_enter Try.func53, Try.ntmps53
  go_wp2
  go_loop [0, 5] (fun y k => ∃ j z : Nat, j ≤ i ∧ k = .int .i64 j ∧ y = .int .u64 (z : Int) ∧ z < 18446744073709551616 ∧ Hid (z = x / 2 ^ j)) (fun _ k => i - (intOf k).toNat)
  case atStart => exact ⟨0, x, by omega, rfl, rfl, hx, Lib.hid (by simp)⟩
  case round =>
    obtain ⟨j, z, hj, rfl, rfl, hz, hzz⟩ := hrel
    by_cases hlt : j < i
    · go_wp2
      go_round
      case rel => exact ⟨j + 1, z / 2, by omega, by go_num, by go_num, by omega, Lib.hid (by rw [hzz.out, bit_div])⟩
      case measure => simp [intOf]; omega
    · obtain rfl : j = i := by omega
      go_wp2
      go_ret
      exact ⟨ret_int (by have h1 := hzz.out; have h2 := HR.out; rw [← h1] at h2; omega), rfl⟩
theorem power_any (i r : Nat) (hr : r = 2 ^ i) (w : World) (hi : i < 64) :
    Calls Try.prog 54 #[.int .i64 (i : Int)] w fun e w' => e = .returned (.int .u64 (r : Int)) ∧ w = w' := by
  have HR := Lib.hid hr; clear hr
  go_enter Try.func54, Try.ntmps54
  go_wp2
  go_loop [3, 4] (fun y k => ∃ j z : Nat, j ≤ i ∧ k = .int .i64 j ∧ y = .int .u64 (z : Int) ∧ z < 18446744073709551616 ∧ Hid (z = 2 ^ j)) (fun _ k => i - (intOf k).toNat)
  case atStart => exact ⟨0, 1, by omega, rfl, rfl, by omega, Lib.hid rfl⟩
  case round =>
    obtain ⟨j, z, hj, rfl, rfl, hz, hzz⟩ := hrel
    by_cases hlt : j < i
    · have h2 : 2 * z < 18446744073709551616 := by
        have h3 : 2 ^ (j + 1) ≤ 2 ^ 63 := Nat.pow_le_pow_right (by omega) (by omega)
        rw [hzz.out, Nat.mul_comm, ← Nat.pow_succ]; exact Nat.lt_of_le_of_lt h3 (by decide)
      go_wp2
      go_round
      case rel => exact ⟨j + 1, 2 * z, by omega, by go_num, by go_num, by omega, Lib.hid (by rw [hzz.out, Nat.mul_comm, ← Nat.pow_succ])⟩
      case measure => simp [intOf]; omega
    · obtain rfl : j = i := by omega
      go_wp2
      go_ret
      exact ⟨ret_int (by rw [hzz.out, HR.out]), rfl⟩
set_option maxHeartbeats 1000000 in
theorem Value_any (x f n r : Nat) (hr : r = val x f n) (w : World) (hx : x < 18446744073709551616) (hn : f + n ≤ 64) (h63 : n ≤ 63) :
    Calls Try.prog 55 #[.int .u64 (x : Int), .int .i64 (f : Int), .int .i64 (n : Int)] w fun e w' => e = .returned (.int .u64 (r : Int)) ∧ w = w' := by
  have HR := Lib.hid hr; clear hr
  go_enter Try.func55, Try.ntmps55
  go_wp2
  go_loop [7, 8] (fun y k => ∃ j z : Nat, j ≤ n ∧ k = .int .i64 j ∧ y = .int .u64 (z : Int) ∧ z < 18446744073709551616 ∧ Hid (z = val x f j)) (fun _ k => n - (intOf k).toNat)
  case atStart => exact ⟨0, 0, by omega, rfl, rfl, by omega, Lib.hid (val_zero x f).symm⟩
  case round =>
    obtain ⟨j, z, hj, rfl, rfl, hz, hzz⟩ := hrel
    by_cases hlt : j < n
    · have hp : 2 ^ j ≤ 2 ^ 62 := Nat.pow_le_pow_right (by omega) (by omega)
      obtain ⟨p, hpp⟩ : ∃ p : Nat, p = 2 ^ j := ⟨_, rfl⟩
      obtain ⟨b, hb⟩ : ∃ b : Nat, b = x / 2 ^ (f + j) % 2 := ⟨_, rfl⟩
      have hb2 : b < 2 := by rw [hb]; omega
      have hp2 : p ≤ 4611686018427387904 := by rw [hpp]; exact hp
      have hbp : b * p < 4611686018427387905 := by
        have : b = 0 ∨ b = 1 := by omega
        rcases this with rfl | rfl <;> omega
      have hs : val x f (j + 1) = z + b * p := by rw [val_succ, hzz.out, hb, hpp]
      have hz2 : z + b * p < 9223372036854775808 := by
        rw [← hs]
        have h1 := val_lt x f (j + 1)
        have h2 : 2 ^ (j + 1) ≤ 2 ^ 63 := Nat.pow_le_pow_right (by omega) (by omega)
        exact Nat.lt_of_lt_of_le h1 h2
      have HS := Lib.hid hs; have HP := Lib.hid hpp; have HB := Lib.hid hb; clear hs hpp hb hp
      go_wp2_with fail
      rw [show (f : Int) + (j : Int) = ((f + j : Nat) : Int) by omega]
      refine (bit_any x (f + j) b HB.out _ hx (by omega)).mono ?_
      rintro e w' ⟨rfl, rfl⟩
      go_wp2_with fail
      refine (power_any j p HP.out _ (by omega)).mono ?_
      rintro e w' ⟨rfl, rfl⟩
      have hm : (b : Int) * (p : Int) = ((b * p : Nat) : Int) := by simp
      have h0 : (0 : Int) ≤ (b : Int) * (p : Int) := by rw [hm]; omega
      have h1 : (b : Int) * (p : Int) < 4611686018427387905 := by rw [hm]; omega
      have h2 : (z : Int) + (b : Int) * (p : Int) < 9223372036854775808 := by rw [hm]; omega
      have HM := Lib.hid hm; clear hm
      go_wp2
      go_round
      case rel => exact ⟨j + 1, z + b * p, by omega, by go_num, by have := HM.out; go_num, by omega, Lib.hid HS.out.symm⟩
      case measure => simp [intOf]; omega
    · obtain rfl : j = n := by omega
      go_wp2
      go_ret
      exact ⟨ret_int (by rw [hzz.out, HR.out]), rfl⟩
set_option maxHeartbeats 1000000 in
theorem With_any (x f n v r : Nat) (hr : r = wth x f n v) (w : World) (hx : x < 18446744073709551616) (hv : v < 18446744073709551616) (hn : f + n ≤ 64) (h63 : n ≤ 63) :
    Calls Try.prog 48 #[.int .u64 (x : Int), .int .i64 (f : Int), .int .i64 (n : Int), .int .u64 (v : Int)] w fun e w' => e = .returned (.int .u64 (r : Int)) ∧ w = w' := by
  have HR := Lib.hid hr; clear hr
  go_enter Try.func48, Try.ntmps48
  go_wp2
  go_loop [0, 9] (fun y k => ∃ j z : Nat, j ≤ n ∧ k = .int .i64 j ∧ y = .int .u64 (z : Int) ∧ z < 18446744073709551616 ∧ Hid (z = wth x f j v)) (fun _ k => n - (intOf k).toNat)
  case atStart => exact ⟨0, x, by omega, rfl, rfl, hx, Lib.hid (wth_zero x f v).symm⟩
  case round =>
    obtain ⟨j, z, hj, rfl, rfl, hz, hzz⟩ := hrel
    by_cases hlt : j < n
    · have hp : 2 ^ (f + j) ≤ 2 ^ 63 := Nat.pow_le_pow_right (by omega) (by omega)
      obtain ⟨p, hpp⟩ : ∃ p : Nat, p = 2 ^ (f + j) := ⟨_, rfl⟩
      obtain ⟨b, hb⟩ : ∃ b : Nat, b = z / 2 ^ (f + j) % 2 := ⟨_, rfl⟩
      obtain ⟨c, hc⟩ : ∃ c : Nat, c = v / 2 ^ j % 2 := ⟨_, rfl⟩
      have hb2 : b < 2 := by rw [hb]; omega
      have hc2 : c < 2 := by rw [hc]; omega
      have hp2 : p ≤ 9223372036854775808 := by rw [hpp]; exact hp
      have hbp : b * p ≤ 9223372036854775808 := by
        have : b = 0 ∨ b = 1 := by omega
        rcases this with rfl | rfl <;> omega
      have hcp : c * p ≤ 9223372036854775808 := by
        have : c = 0 ∨ c = 1 := by omega
        rcases this with rfl | rfl <;> omega
      have hbz : b * p ≤ z := by rw [hb, hpp, hzz.out, wth_hi]; exact wth_ge x f j v
      have hs : wth x f (j + 1) v = z - b * p + c * p := by rw [wth_succ, hb, hpp, hc, hzz.out, wth_hi]
      have hz2 : z - b * p + c * p < 18446744073709551616 := by
        rw [← hs]
        exact wth_lt (k := j + 1) hx (by omega)
      have HS := Lib.hid hs; have HP := Lib.hid hpp; have HB := Lib.hid hb; have HC := Lib.hid hc; clear hs hpp hb hp hc
      go_wp2_with fail
      rw [show (f : Int) + (j : Int) = ((f + j : Nat) : Int) by omega]
      refine (bit_any z (f + j) b HB.out _ hz (by omega)).mono ?_
      rintro e w' ⟨rfl, rfl⟩
      go_wp2_with fail
      rw [show (f : Int) + (j : Int) = ((f + j : Nat) : Int) by omega]
      refine (power_any (f + j) p HP.out _ (by omega)).mono ?_
      rintro e w' ⟨rfl, rfl⟩
      have hm : (b : Int) * (p : Int) = ((b * p : Nat) : Int) := by simp
      have hm2 : (c : Int) * (p : Int) = ((c * p : Nat) : Int) := by simp
      have h0 : (0 : Int) ≤ (b : Int) * (p : Int) := by rw [hm]; omega
      have h1 : (b : Int) * (p : Int) ≤ (z : Int) := by rw [hm]; omega
      have h3 : (0 : Int) ≤ (c : Int) * (p : Int) := by rw [hm2]; omega
      have h4 : (c : Int) * (p : Int) ≤ 9223372036854775808 := by rw [hm2]; omega
      have h2 : (z : Int) - (b : Int) * (p : Int) + (c : Int) * (p : Int) < 18446744073709551616 := by rw [hm, hm2]; omega
      have HM := Lib.hid hm; clear hm
      have HM2 := Lib.hid hm2; clear hm2
      go_wp2_with fail
      refine (bit_any v j c HC.out _ hv (by omega)).mono ?_
      rintro e w' ⟨rfl, rfl⟩
      go_wp2_with fail
      rw [show (f : Int) + (j : Int) = ((f + j : Nat) : Int) by omega]
      refine (power_any (f + j) p HP.out _ (by omega)).mono ?_
      rintro e w' ⟨rfl, rfl⟩
      go_wp2
      go_round
      case rel => exact ⟨j + 1, z - b * p + c * p, by omega, by go_num, congrArg _ (by have h5 := HM.out; have h6 := HM2.out; omega), by omega, Lib.hid HS.out.symm⟩
      case measure => simp [intOf]; omega
    · obtain rfl : j = n := by omega
      go_wp2
      go_ret
      exact ⟨ret_int (by rw [hzz.out, HR.out]), rfl⟩
end Go.Proofs.Ythlappdngpjdeaa
namespace Go.Proofs.Ythlappdngpjdeaa
open Go.RowKit L01 L02 L05 L14
set_option maxHeartbeats 1000000 in
theorem HCheck_any (b : Hb) (r : Int) (hr : r = hErr b) (w : World) : Calls Try.prog 14 #[.agg #[.int .i64 b.at_, .int .i64 b.size, .int .i64 b.kind, .int .i64 b.ty, .bool b.mark, .int .u64 b.next.toNat]] w fun e w' => e = .returned (.int .i64 r) ∧ Below w.heap.size w w' := by
  have HB := Lib.hid hr; clear hr
  obtain ⟨at_, size, kind, ty, mark, next⟩ := b
  dsimp only at *
  cases mark
  all_goals
    go_enter Try.func14, Try.ntmps14
    go_wp2
    all_goals
      go_ret
      refine ⟨ret_int ?_, (Below.refl _ _).alloc (Nat.le_refl _) _⟩
      rw [HB.out]
      try simp only [Bool.not_eq_true', Bool.not_eq_false', decide_eq_true_eq, decide_eq_false_iff_not, beq_eq_false_iff_ne, beq_iff_eq, bne_iff_ne, bne_eq_false_iff_eq, ne_eq] at *
      first
      | exact (hErr_ok (by simp [BkOk, ObjB, FreeB]; try omega)).symm
      | exact (hErr_no (by simp [BkOk, ObjB, FreeB]; try omega)).symm
theorem mask32_any (w : World) : Calls Try.prog 52 #[.int .i64 0, .int .i64 32] w fun e w' => e = .returned (.int .u64 4294967295) ∧ w = w' := by
  go_enter Try.func52, Try.ntmps52
  go_wp2
  go_ret
  exact ⟨rfl, rfl⟩
theorem Get32_any (x : UInt64) (r : Nat) (hr : r = x.toNat % 4294967296) (w : World) : Calls Try.prog 47 #[.int .u64 x.toNat, .int .i64 0, .int .i64 32] w fun e w' => e = .returned (.tuple #[.int .u64 (r : Int), .int .i64 0]) ∧ w = w' := by
  have hxl := toNat_lt x
  have e1 := and_int (a := (x.toNat : Int)) 32 (by omega) (by omega) 4294967295 (by decide) (by omega)
  rw [show ((2 ^ 32 : Nat) : Int) = 4294967296 from rfl] at e1
  have e2 : (x.toNat : Int) % 4294967296 = (r : Int) := by rw [hr]; omega
  have e3 := e1.trans e2
  clear hr e1 e2
  go_enter Try.func47, Try.ntmps47
  go_wp2_with fail
  refine (mask32_any _).mono ?_
  rintro e w' ⟨rfl, rfl⟩
  go_wp2
  go_ret2
  exact ⟨rfl, rfl⟩
theorem Low32_any (v : Value) (l : List UInt64) (r : Nat) (hr : r = (sum l).toNat % 4294967296) (hl : l.length ≤ 2048) (w : World) (h : Words w v l) :
    Calls Try.prog 35 #[v, .int .i64 32] w fun e w' => e = .returned (.tuple #[.int .u64 (r : Int), .int .i64 0]) ∧ Below w.heap.size w w' := by
  obtain ⟨S, hS⟩ : ∃ S, S = sum l := ⟨_, rfl⟩
  rw [← hS] at hr
  have GT := Lib.hid (fun w => Get32_any S r hr w)
  have HO : Hid (∀ w, Words w v l → Calls Try.prog 46 #[v] w fun e w' => e = .returned (.tuple #[.int .u64 S.toNat, .int .i64 0]) ∧ Below w.heap.size w w') := by
    rw [hS]; exact Lib.hid (fun w h => Of_any v l w h hl)
  have B : Below w.heap.size w w := Below.refl _ _
  have H := Lib.hid h; clear h hr hS
  go_enter Try.func35, Try.ntmps35
  go_wp2_with fail
  refine (HO.out _ (H.out.below B)).mono ?_
  rintro e wa1 ⟨rfl, b⟩
  replace B := B.trans (b.mono B.size); clear b
  go_wp2_with fail
  refine (GT.out _).mono ?_
  rintro e w' ⟨rfl, rfl⟩
  go_wp2
  go_ret2
  exact ⟨rfl, B⟩
theorem lit_one {w : World} {e n : Nat} (x : UInt64) (hn : w.heap.size = n) : Words (w.alloc (.cells #[.int .u64 x.toNat] e)) (.slice (some ⟨n, 0, none⟩) 1 1) [x] := by
  subst hn; exact lit_words [x] rfl rfl (by simp)
set_option maxRecDepth 100000 in
theorem sealed_any (x : UInt64) (r : Nat) (hx : x.toNat < 4294967296) (hr : r = x.toNat + partN x * 4294967296) (w : World) :
    Calls Try.prog 23 #[.int .u64 x.toNat] w fun e w' => e = .returned (.tuple #[.int .u64 (r : Int), .int .i64 0]) ∧ Below w.heap.size w w' := by
  have B : Below w.heap.size w w := Below.refl _ _
  obtain ⟨p, hp⟩ : ∃ p, p = partN x := ⟨_, rfl⟩
  have hpl : p < 4294967296 := by rw [hp]; exact part_lt x
  have hp2 : (sum [x]).toNat % 4294967296 = p := hp.symm
  have LO := Lib.hid (fun v w h => Low32_any v [x] p hp2.symm (by simp) w h)
  have e1 := or_int (a := (x.toNat : Int)) (b := (p : Int) * 4294967296) 32 p (by omega) (by simp; omega) (by omega) (by omega) (by omega)
  have e2 : IntKind.u64.wrap ((p : Int) * 4294967296) = (p : Int) * 4294967296 := by rw [wrap_u64]; omega
  rw [← hp] at hr
  have HR := Lib.hid hr; clear hp hr hp2
  go_enter Try.func23, Try.ntmps23
  go_wp2_with fail
  refine (LO.out _ _ (lit_one x rfl)).mono ?_
  rintro e w' ⟨rfl, b⟩
  replace B := (B.alloc B.size _).trans (b.mono (by simp))
  go_wp2
  go_ret2
  exact ⟨by rw [HR.out]; congr 3, B⟩
set_option maxHeartbeats 1000000 in
theorem of_any (b : Hb) (hb : BkOk b) (lw : Nat) (hlw : lw = lowN b) (w : World) :
    Calls Try.prog 22 #[.agg #[.int .i64 b.at_, .int .i64 b.size, .int .i64 b.kind, .int .i64 b.ty, .bool b.mark, .int .u64 b.next.toNat]] w fun e w' => e = .returned (.agg #[.int .u64 (lw : Int), .int .u64 b.kind, .int .u64 b.ty, .int .u64 b.size, .int .u64 (mk1 b.mark : Nat)]) ∧ Below w.heap.size w w' := by
  have B : Below w.heap.size w w := Below.refl _ _
  obtain ⟨h1, h2, h3, h4, h5, h6⟩ := hb.bounds
  obtain ⟨at_, size, kind, ty, mark, next⟩ := b
  dsimp only at *
  obtain ⟨S, rfl⟩ := Int.eq_ofNat_of_zero_le (show 0 ≤ size by omega)
  obtain ⟨K, rfl⟩ := Int.eq_ofNat_of_zero_le (show 0 ≤ kind by omega)
  obtain ⟨T, rfl⟩ := Int.eq_ofNat_of_zero_le h5
  have w1 : IntKind.u64.wrap (K : Int) = K := by rw [wrap_u64]; omega
  have w2 : IntKind.u64.wrap (T : Int) = T := by rw [wrap_u64]; omega
  have w3 : IntKind.u64.wrap (S : Int) = S := by rw [wrap_u64]; omega
  have w4 : IntKind.u64.wrap ((T : Int) * 512) = (T : Int) * 512 := by rw [wrap_u64]; omega
  have w5 : IntKind.u64.wrap ((S : Int) * 65536) = (S : Int) * 65536 := by rw [wrap_u64]; omega
  have HL := Lib.hid hlw; clear hlw hb
  cases mark
  · have o1 := or_int (a := (K : Int)) (b := (T : Int) * 512) 9 T (by omega) (by simp; omega) (by omega) (by omega) (by omega)
    have o2 := or_int (a := (K : Int) + (T : Int) * 512) (b := (S : Int) * 65536) 16 S (by omega) (by simp; omega) (by omega) (by omega) (by omega)
    have o0 := or_int (a := (K : Int)) (b := 0) 9 0 (by omega) (by simp; omega) (by omega) (by omega) (by omega)
    rw [Int.add_zero] at o0
    go_enter Try.func22, Try.ntmps22
    go_wp2
    refine bodyPost_ret (v := .agg #[.int .u64 (lw : Int), .int .u64 K, .int .u64 T, .int .u64 S, .int .u64 0]) (by simp [results, Try.results22, go_sem, HL.out, lowN, mk1]) rfl ⟨rfl, ?_⟩
    (repeat (first | refine Below.setCell ?_ (by first | exact Nat.le_refl _ | (simp <;> omega)) _ | refine Below.alloc ?_ (by first | exact B.size | (have := B.size; simp <;> omega)) _)); exact B
  · have o0 := or_int (a := (K : Int)) (b := 256) 8 1 (by omega) (by simp; omega) (by omega) (by omega) (by omega)
    have o1 := or_int (a := (K : Int) + 256) (b := (T : Int) * 512) 9 T (by omega) (by simp; omega) (by omega) (by omega) (by omega)
    have o2 := or_int (a := (K : Int) + 256 + (T : Int) * 512) (b := (S : Int) * 65536) 16 S (by omega) (by simp; omega) (by omega) (by omega) (by omega)
    go_enter Try.func22, Try.ntmps22
    go_wp2
    refine bodyPost_ret (v := .agg #[.int .u64 (lw : Int), .int .u64 K, .int .u64 T, .int .u64 S, .int .u64 1]) (by simp [results, Try.results22, go_sem, HL.out, lowN, mk1]) rfl ⟨rfl, ?_⟩
    (repeat (first | refine Below.setCell ?_ (by first | exact Nat.le_refl _ | (simp <;> omega)) _ | refine Below.alloc ?_ (by first | exact B.size | (have := B.size; simp <;> omega)) _)); exact B
theorem form_low (a b c d e : Int) (W : World) : (Instr.field 57 (.agg #[.int .u64 a, .int .u64 b, .int .u64 c, .int .u64 d, .int .u64 e]) 0).run Try.prog W = .ok (.int .u64 a) W := by kernel_rfl
set_option maxRecDepth 100000 in
theorem HWord_any (b : Hb) (v : UInt64) (r : Int) (hv : v = word b) (hr : r = hErr b) (w : World) :
    Calls Try.prog 11 #[.agg #[.int .i64 b.at_, .int .i64 b.size, .int .i64 b.kind, .int .i64 b.ty, .bool b.mark, .int .u64 b.next.toNat]] w fun e w' => e = .returned (.tuple #[.int .u64 v.toNat, .int .i64 r]) ∧ Below w.heap.size w w' := by
  have B : Below w.heap.size w w := Below.refl _ _
  have CT := Lib.hid (fun w => HCheck_any b r hr w)
  by_cases hb : BkOk b
  · rw [hErr_ok hb] at hr
    have hn := word_nat hb
    rw [← hv] at hn
    have hlt := lowN_lt hb
    obtain ⟨x, hx⟩ : ∃ x : UInt64, x = UInt64.ofNat (lowN b) := ⟨_, rfl⟩
    have hxn : x.toNat = lowN b := by rw [hx, UInt64.toNat_ofNat', Nat.mod_eq_of_lt (by omega)]
    have OT := Lib.hid (fun w => of_any b hb x.toNat hxn w)
    have ST := Lib.hid (fun w => sealed_any x v.toNat (by omega) (by rw [hn, wordN, ← hx, hxn]) w)
    subst hr
    have hf := fun W => form_low (x.toNat : Int) b.kind b.ty b.size (mk1 b.mark : Nat) W
    clear hv hb hn hlt hx hxn
    go_enter Try.func11, Try.ntmps11
    go_upto_region 1 with (fail)
    refine wp_gen (fun Wv => Bx Wv (w.heap.size) (38) (#[.int .i64 b.at_, .int .i64 b.size, .int .i64 b.kind, .int .i64 b.ty, .bool b.mark, .int .u64 b.next.toNat]) ∧ Below w.heap.size w Wv) ⟨((Bx.at_ (by simp))), ((Below.refl _ w).alloc (by simp <;> omega) _)⟩ ?_
    rintro wa1 ⟨g1, b⟩
    replace B := B.trans (b.mono B.size); clear b
    have c_g1 := g1.cell; have f_g1 := g1.free; have a_g1 := fun o => (g1.alloc o).cell; have d_g1 := fun o o2 => ((g1.alloc o).alloc o2).cell; have e_g1 := fun o => (g1.alloc o).free
    go_wp2_with fail
    refine (CT.out _).mono ?_
    rintro e wa2 ⟨rfl, b⟩
    try clear c_g1 f_g1 a_g1 d_g1 e_g1
    replace g1 := g1.below b; have c_g1 := g1.cell; have f_g1 := g1.free; have a_g1 := fun o => (g1.alloc o).cell; have d_g1 := fun o o2 => ((g1.alloc o).alloc o2).cell; have e_g1 := fun o => (g1.alloc o).free; replace B := B.trans (b.mono B.size); clear b
    go_wp2_with fail
    refine (OT.out _).mono ?_
    rintro e wa3 ⟨rfl, b⟩
    try clear c_g1 f_g1 a_g1 d_g1 e_g1
    replace g1 := g1.below b; have c_g1 := g1.cell; have f_g1 := g1.free; have a_g1 := fun o => (g1.alloc o).cell; have d_g1 := fun o o2 => ((g1.alloc o).alloc o2).cell; have e_g1 := fun o => (g1.alloc o).free; replace B := B.trans (b.mono B.size); clear b
    go_wp2_with fail
    refine (ST.out _).mono ?_
    rintro e wa4 ⟨rfl, b⟩
    try clear c_g1 f_g1 a_g1 d_g1 e_g1
    replace g1 := g1.below b; have c_g1 := g1.cell; have f_g1 := g1.free; have a_g1 := fun o => (g1.alloc o).cell; have d_g1 := fun o o2 => ((g1.alloc o).alloc o2).cell; have e_g1 := fun o => (g1.alloc o).free; replace B := B.trans (b.mono B.size); clear b
    go_wp2
    go_ret2
    exact ⟨rfl, B⟩
  · rw [hErr_no hb] at hr
    have hv0 : v = 0 := by rw [hv, word, if_neg hb]
    subst hr; subst hv0
    clear hv hb
    go_enter Try.func11, Try.ntmps11
    go_upto_region 1 with (fail)
    refine wp_gen (fun Wv => Bx Wv (w.heap.size) (38) (#[.int .i64 b.at_, .int .i64 b.size, .int .i64 b.kind, .int .i64 b.ty, .bool b.mark, .int .u64 b.next.toNat]) ∧ Below w.heap.size w Wv) ⟨((Bx.at_ (by simp))), ((Below.refl _ w).alloc (by simp <;> omega) _)⟩ ?_
    rintro wa1 ⟨g1, b⟩
    replace B := B.trans (b.mono B.size); clear b
    have c_g1 := g1.cell; have f_g1 := g1.free; have a_g1 := fun o => (g1.alloc o).cell; have d_g1 := fun o o2 => ((g1.alloc o).alloc o2).cell; have e_g1 := fun o => (g1.alloc o).free
    go_wp2_with fail
    refine (CT.out _).mono ?_
    rintro e wa2 ⟨rfl, b⟩
    try clear c_g1 f_g1 a_g1 d_g1 e_g1
    replace g1 := g1.below b; have c_g1 := g1.cell; have f_g1 := g1.free; have a_g1 := fun o => (g1.alloc o).cell; have d_g1 := fun o o2 => ((g1.alloc o).alloc o2).cell; have e_g1 := fun o => (g1.alloc o).free; replace B := B.trans (b.mono B.size); clear b
    go_wp2
    go_ret2
    exact ⟨rfl, B⟩
set_option maxRecDepth 100000 in
set_option maxHeartbeats 1000000 in
theorem HSplit_any (x : UInt64) (b : Hb) (r : Int) (hb : b = split x) (hr : r = splE x) (w : World) :
    Calls Try.prog 43 #[.int .u64 x.toNat] w fun e w' => e = .returned (.tuple #[.agg #[.int .i64 b.at_, .int .i64 b.size, .int .i64 b.kind, .int .i64 b.ty, .bool b.mark, .int .u64 b.next.toNat], .int .i64 r]) ∧ Below w.heap.size w w' := by
  have B : Below w.heap.size w w := Below.refl _ _
  have hxl := toNat_lt x
  obtain ⟨t, ht⟩ : ∃ t, t = told x := ⟨_, rfl⟩
  obtain ⟨v, hv⟩ : ∃ v, v = word t := ⟨_, rfl⟩
  obtain ⟨e, he⟩ : ∃ e, e = hErr t := ⟨_, rfl⟩
  have WT := Lib.hid (fun w => HWord_any t v e hv he w)
  have a1 := and_int (a := (x.toNat : Int)) 8 (by omega) (by omega) 255 (by decide) (by omega)
  have a2 := and_int (a := (x.toNat : Int) / 256) 1 (by omega) (by omega) 1 (by decide) (by omega)
  have a3 := and_int (a := (x.toNat : Int) / 512) 7 (by omega) (by omega) 127 (by decide) (by omega)
  have a4 := and_int (a := (x.toNat : Int) / 65536) 16 (by omega) (by omega) 65535 (by decide) (by omega)
  rw [show ((2 ^ 8 : Nat) : Int) = 256 from rfl] at a1
  rw [show ((2 ^ 1 : Nat) : Int) = 2 from rfl] at a2
  rw [show ((2 ^ 7 : Nat) : Int) = 128 from rfl] at a3
  rw [show ((2 ^ 16 : Nat) : Int) = 65536 from rfl] at a4
  have i1 : IntKind.i64.wrap ((x.toNat : Int) % 256) = (x.toNat : Int) % 256 := IntWalk.i64_in _ (by omega)
  have i3 : IntKind.i64.wrap ((x.toNat : Int) / 512 % 128) = (x.toNat : Int) / 512 % 128 := IntWalk.i64_in _ (by omega)
  have i4 : IntKind.i64.wrap ((x.toNat : Int) / 65536 % 65536) = (x.toNat : Int) / 65536 % 65536 := IntWalk.i64_in _ (by omega)
  have t1 : (x.toNat : Int) % 256 = t.kind := by rw [ht]; rfl
  have t3 : (x.toNat : Int) / 512 % 128 = t.ty := by rw [ht]; rfl
  have t4 : (x.toNat : Int) / 65536 % 65536 = t.size := by rw [ht]; rfl
  have t2 : ((x.toNat : Int) / 256 % 2 == 1) = t.mark := by
    rw [ht, Bool.eq_iff_iff, beq_iff_eq]
    show _ ↔ decide (x.toNat / 256 % 2 = 1) = true
    rw [decide_eq_true_iff]; omega
  have t5 : t.at_ = 0 := by rw [ht]; rfl
  have t6 : t.next = 0 := by rw [ht]; rfl
  have hcase : (e = 0 ∧ v = x ∧ b = t ∧ r = 0) ∨ (e ≠ 0 ∧ b = .none ∧ r = 50) ∨ (e = 0 ∧ v ≠ x ∧ b = .none ∧ r = 50) := by
    by_cases hk : BkOk t
    · by_cases hw : v = x
      · have hd : HdOk x := ⟨by rw [← ht]; exact hk, by rw [← ht, ← hv]; exact hw⟩
        exact .inl ⟨by rw [he, hErr_ok hk], hw, by rw [hb, split_told hd, ht], by rw [hr, splE, if_pos hd]⟩
      · have hd : ¬ HdOk x := fun h => hw (by rw [hv, ht]; exact h.2)
        exact .inr (.inr ⟨by rw [he, hErr_ok hk], hw, by rw [hb, split, if_neg hd], by rw [hr, splE, if_neg hd]⟩)
    · have hd : ¬ HdOk x := fun h => hk (by rw [ht]; exact h.1)
      exact .inr (.inl ⟨by rw [he, hErr_no hk]; decide, by rw [hb, split, if_neg hd], by rw [hr, splE, if_neg hd]⟩)
  obtain ⟨at_, size, kind, ty, mark, next⟩ := t
  dsimp only at t1 t2 t3 t4 t5 t6
  subst t5; subst t6
  have q1 := a1.trans t1; have q3 := a3.trans t3; have q4 := a4.trans t4
  have j1 : IntKind.i64.wrap kind = kind := by rw [← t1]; exact i1
  have j3 : IntKind.i64.wrap ty = ty := by rw [← t3]; exact i3
  have j4 : IntKind.i64.wrap size = size := by rw [← t4]; exact i4
  have WT' : Hid (∀ w, Calls Try.prog 11 #[.agg #[.int .i64 0, .int .i64 size, .int .i64 kind, .int .i64 ty, .bool mark, .int .u64 0]] w fun e_1 w' => e_1 = .returned (.tuple #[.int .u64 v.toNat, .int .i64 e]) ∧ Below w.heap.size w w') := WT
  clear ht hv he hb hr WT a1 a3 a4 i1 i3 i4 t1 t3 t4
  go_enter Try.func43, Try.ntmps43
  go_upto_region 2 with (fail)
  refine wp_gen (fun Wv => Bx Wv (w.heap.size) (38) (#[.int .i64 0, .int .i64 0, .int .i64 0, .int .i64 0, .bool false, .int .u64 0]) ∧ Bx Wv (w.heap.size + 1) (38) (#[.int .i64 0, .int .i64 size, .int .i64 kind, .int .i64 ty, .bool mark, .int .u64 0]) ∧ Below w.heap.size w Wv) ⟨(((Bx.at_ (by simp)).alloc _)), ((Bx.at_ (by simp))), (((Below.refl _ w).alloc (by simp <;> omega) _).alloc (by simp <;> omega) _)⟩ ?_
  rintro wa1 ⟨g1, g2, b⟩
  replace B := B.trans (b.mono B.size); clear b
  have c_g1 := g1.cell; have f_g1 := g1.free; have a_g1 := fun o => (g1.alloc o).cell; have d_g1 := fun o o2 => ((g1.alloc o).alloc o2).cell; have e_g1 := fun o => (g1.alloc o).free
  have c_g2 := g2.cell; have f_g2 := g2.free; have a_g2 := fun o => (g2.alloc o).cell; have d_g2 := fun o o2 => ((g2.alloc o).alloc o2).cell; have e_g2 := fun o => (g2.alloc o).free
  go_wp2_with fail
  refine (WT'.out _).mono ?_
  rintro e wa2 ⟨rfl, b⟩
  try clear c_g1 f_g1 a_g1 d_g1 e_g1
  replace g1 := g1.below b; have c_g1 := g1.cell; have f_g1 := g1.free; have a_g1 := fun o => (g1.alloc o).cell; have d_g1 := fun o o2 => ((g1.alloc o).alloc o2).cell; have e_g1 := fun o => (g1.alloc o).free; try clear c_g2 f_g2 a_g2 d_g2 e_g2
  replace g2 := g2.below b; have c_g2 := g2.cell; have f_g2 := g2.free; have a_g2 := fun o => (g2.alloc o).cell; have d_g2 := fun o o2 => ((g2.alloc o).alloc o2).cell; have e_g2 := fun o => (g2.alloc o).free; replace B := B.trans (b.mono B.size); clear b
  rcases hcase with ⟨rfl, rfl, rfl, rfl⟩ | ⟨h1, rfl, rfl⟩ | ⟨rfl, h1, rfl, rfl⟩
  · go_wp2
    refine bodyPost_ret (v := .tuple #[.agg #[.int .i64 0, .int .i64 size, .int .i64 kind, .int .i64 ty, .bool mark, .int .u64 0], .int .i64 0]) (by simp [results, Try.results43, go_sem, c_g1, f_g1, a_g1, e_g1, c_g2, f_g2, a_g2, e_g2]) rfl ?_
    refine ⟨rfl, ?_⟩
    (repeat (first | refine Below.setCell ?_ (by first | exact Nat.le_refl _ | (simp <;> omega)) _ | refine Below.alloc ?_ (by first | exact B.size | (have := B.size; simp <;> omega)) _)); exact B
  · have n1 : (e != 0) = true := by rw [bne_iff_ne]; exact h1
    go_wp2
    refine bodyPost_ret (v := .tuple #[.agg #[.int .i64 0, .int .i64 0, .int .i64 0, .int .i64 0, .bool false, .int .u64 0], .int .i64 50]) (by simp [results, Try.results43, go_sem, c_g1, f_g1, a_g1, e_g1, c_g2, f_g2, a_g2, e_g2]) rfl ?_
    refine ⟨rfl, ?_⟩
    (repeat (first | refine Below.setCell ?_ (by first | exact Nat.le_refl _ | (simp <;> omega)) _ | refine Below.alloc ?_ (by first | exact B.size | (have := B.size; simp <;> omega)) _)); exact B
  · have n1 : ((v.toNat : Int) != (x.toNat : Int)) = true := by rw [bne_iff_ne]; intro e; exact h1 (UInt64.toNat.inj (by omega))
    go_wp2
    refine bodyPost_ret (v := .tuple #[.agg #[.int .i64 0, .int .i64 0, .int .i64 0, .int .i64 0, .bool false, .int .u64 0], .int .i64 50]) (by simp [results, Try.results43, go_sem, c_g1, f_g1, a_g1, e_g1, c_g2, f_g2, a_g2, e_g2]) rfl ?_
    refine ⟨rfl, ?_⟩
    (repeat (first | refine Below.setCell ?_ (by first | exact Nat.le_refl _ | (simp <;> omega)) _ | refine Below.alloc ?_ (by first | exact B.size | (have := B.size; simp <;> omega)) _)); exact B
end Go.Proofs.Ythlappdngpjdeaa
namespace Go.Proofs.Ythlappdngpjdeaa
open Go.RowKit L01 L02 L05 L14
set_option maxHeartbeats 1000000 in
theorem HCheckR_any (b : Hb) (r : Int) (hr : r = hErr b) (w : World) : Calls Try.prog 28 #[.agg #[.int .i64 b.at_, .int .i64 b.size, .int .i64 b.kind, .int .i64 b.ty, .bool b.mark, .int .u64 b.next.toNat]] w fun e w' => e = .returned (.int .i64 r) ∧ Below w.heap.size w w' := by
  have HB := Lib.hid hr; clear hr
  obtain ⟨at_, size, kind, ty, mark, next⟩ := b
  dsimp only at *
  cases mark
  all_goals
    go_enter Try.func28, Try.ntmps28
    go_wp2
    all_goals
      go_ret
      refine ⟨ret_int ?_, (Below.refl _ _).alloc (Nat.le_refl _) _⟩
      rw [HB.out]
      try simp only [Bool.not_eq_true', Bool.not_eq_false', decide_eq_true_eq, decide_eq_false_iff_not, beq_eq_false_iff_ne, beq_iff_eq, bne_iff_ne, bne_eq_false_iff_eq, ne_eq] at *
      first
      | exact (hErr_ok (by simp [BkOk, ObjB, FreeB]; try omega)).symm
      | exact (hErr_no (by simp [BkOk, ObjB, FreeB]; try omega)).symm
theorem val_mod (x f n : Nat) : val x f n = x / 2 ^ f % 2 ^ n := rfl
set_option maxRecDepth 100000 in
theorem PartR32_any (v : Value) (l : List UInt64) (r : Nat) (hr : r = (sum l).toNat % 4294967296) (hl : l.length ≤ 2048) (w : World) (h : Words w v l) :
    Calls Try.prog 49 #[v, .int .i64 32] w fun e w' => e = .returned (.int .u64 (r : Int)) ∧ Below w.heap.size w w' := by
  obtain ⟨S, hS⟩ : ∃ S, S = sum l := ⟨_, rfl⟩
  rw [← hS] at hr
  have hsl := toNat_lt S
  have VT := Lib.hid (fun w => Value_any S.toNat 0 32 r (by rw [hr, val_mod]; omega) w (by omega) (by omega) (by omega))
  have HO : Hid (∀ w, Words w v l → Calls Try.prog 56 #[v] w fun e w' => e = .returned (.int .u64 S.toNat) ∧ Below w.heap.size w w') := by
    rw [hS]; exact Lib.hid (fun w h => SumR_any v l w h (by omega))
  have B : Below w.heap.size w w := Below.refl _ _
  have H := Lib.hid h; clear h hr hS
  go_enter Try.func49, Try.ntmps49
  go_wp2_with fail
  refine (HO.out _ (H.out.below B)).mono ?_
  rintro e wa1 ⟨rfl, b⟩
  replace B := B.trans (b.mono B.size); clear b
  go_wp2_with fail
  refine (VT.out _).mono ?_
  rintro e w' ⟨rfl, rfl⟩
  go_wp2
  go_ret
  exact ⟨rfl, B⟩
theorem wth_plain {w f k v : Nat} (hw : w < 2 ^ f) (hv : v < 2 ^ k) : wth w f k v = w + v * 2 ^ f := by
  have h1 : w < 2 ^ (f + k) := Nat.lt_of_lt_of_le hw (Nat.pow_le_pow_right (by omega) (by omega))
  rw [wth, Nat.div_eq_of_lt h1, Nat.mod_eq_of_lt hw, Nat.mod_eq_of_lt hv]; omega
set_option maxRecDepth 100000 in
set_option maxHeartbeats 1000000 in
theorem WordHR_any (b : Hb) (hb : BkOk b) (v : UInt64) (hv : v = word b) (w : World) :
    Calls Try.prog 39 #[.int .i64 b.kind, .bool b.mark, .int .i64 b.ty, .int .i64 b.size] w fun e w' => e = .returned (.int .u64 v.toNat) ∧ Below w.heap.size w w' := by
  have B : Below w.heap.size w w := Below.refl _ _
  obtain ⟨h1, h2, h3, h4, h5, h6⟩ := hb.bounds
  have hn := word_nat hb
  rw [← hv] at hn
  have hlt := lowN_lt hb
  obtain ⟨lw, hlw⟩ : ∃ lw, lw = lowN b := ⟨_, rfl⟩
  rw [wordN, ← hlw] at hn
  rw [← hlw] at hlt
  obtain ⟨x, hx⟩ : ∃ x : UInt64, x = UInt64.ofNat lw := ⟨_, rfl⟩
  have hxn : x.toNat = lw := by rw [hx, UInt64.toNat_ofNat', Nat.mod_eq_of_lt (by omega)]
  rw [← hx] at hn
  obtain ⟨p, hp⟩ : ∃ p, p = partN x := ⟨_, rfl⟩
  have hpl : p < 4294967296 := by rw [hp]; exact part_lt x
  rw [← hp] at hn
  have PT := Lib.hid (fun v w h => PartR32_any v [x] p hp (by simp) w h)
  obtain ⟨at_, size, kind, ty, mark, next⟩ := b
  dsimp only at *
  obtain ⟨S, rfl⟩ := Int.eq_ofNat_of_zero_le (show 0 ≤ size by omega)
  obtain ⟨K, rfl⟩ := Int.eq_ofNat_of_zero_le (show 0 ≤ kind by omega)
  obtain ⟨T, rfl⟩ := Int.eq_ofNat_of_zero_le h5
  have w1 : IntKind.u64.wrap (K : Int) = K := by rw [wrap_u64]; omega
  have w2 : IntKind.u64.wrap (T : Int) = T := by rw [wrap_u64]; omega
  have w3 : IntKind.u64.wrap (S : Int) = S := by rw [wrap_u64]; omega
  have hw5 : v.toNat = wth lw 32 32 p := by rw [wth_plain (by omega) (by omega), hn]
  have A5 := Lib.hid (fun w => With_any lw 32 32 p v.toNat hw5 w (by omega) (by omega) (by omega) (by omega))
  have A1 := Lib.hid (fun w => With_any 0 0 8 K K (by rw [wth_plain (by omega) (by omega)]; omega) w (by omega) (by omega) (by omega) (by omega))
  clear hv hb hn hx hp hw5
  cases mark
  · have e3 : lw = K + T * 512 + S * 65536 := by rw [hlw, lowN, mk1]; simp
    have A3 := Lib.hid (fun w => With_any K 9 7 T (K + T * 512) (by rw [wth_plain (by omega) (by omega)]) w (by omega) (by omega) (by omega) (by omega))
    have A4 := Lib.hid (fun w => With_any (K + T * 512) 16 16 S lw (by rw [wth_plain (by omega) (by omega), e3]) w (by omega) (by omega) (by omega) (by omega))
    have HX := Lib.hid hxn
    clear hlw e3 hxn
    go_enter Try.func39, Try.ntmps39
    go_wp2_with fail
    refine (A1.out _).mono ?_
    rintro e w' ⟨rfl, rfl⟩
    go_wp2_with fail
    refine (A3.out _).mono ?_
    rintro e w' ⟨rfl, rfl⟩
    go_wp2_with fail
    refine (A4.out _).mono ?_
    rintro e w' ⟨rfl, rfl⟩
    go_wp2_with fail
    refine (PT.out _ _ (by rw [← HX.out]; exact lit_one x rfl)).mono ?_
    rintro e w' ⟨rfl, b⟩
    replace B := (B.alloc B.size _).trans (b.mono (by simp))
    go_wp2_with fail
    refine (A5.out _).mono ?_
    rintro e w' ⟨rfl, rfl⟩
    go_wp2
    go_ret
    exact ⟨rfl, B⟩
  · have e3 : lw = K + 256 + T * 512 + S * 65536 := by rw [hlw, lowN, mk1]; simp
    have A2 := Lib.hid (fun w => With_any K 8 1 1 (K + 256) (by rw [wth_plain (by omega) (by omega)]) w (by omega) (by omega) (by omega) (by omega))
    have A3 := Lib.hid (fun w => With_any (K + 256) 9 7 T (K + 256 + T * 512) (by rw [wth_plain (by omega) (by omega)]) w (by omega) (by omega) (by omega) (by omega))
    have A4 := Lib.hid (fun w => With_any (K + 256 + T * 512) 16 16 S lw (by rw [wth_plain (by omega) (by omega), e3]) w (by omega) (by omega) (by omega) (by omega))
    have HX := Lib.hid hxn
    clear hlw e3 hxn
    go_enter Try.func39, Try.ntmps39
    go_wp2_with fail
    refine (A1.out _).mono ?_
    rintro e w' ⟨rfl, rfl⟩
    go_wp2_with fail
    refine (A2.out _).mono ?_
    rintro e w' ⟨rfl, rfl⟩
    go_wp2_with fail
    refine (A3.out _).mono ?_
    rintro e w' ⟨rfl, rfl⟩
    go_wp2_with fail
    refine (A4.out _).mono ?_
    rintro e w' ⟨rfl, rfl⟩
    go_wp2_with fail
    refine (PT.out _ _ (by rw [← HX.out]; exact lit_one x rfl)).mono ?_
    rintro e w' ⟨rfl, b⟩
    replace B := (B.alloc B.size _).trans (b.mono (by simp))
    go_wp2_with fail
    refine (A5.out _).mono ?_
    rintro e w' ⟨rfl, rfl⟩
    go_wp2
    go_ret
    exact ⟨rfl, B⟩
set_option maxRecDepth 100000 in
theorem OfHR_any (b : Hb) (hb : BkOk b) (v : UInt64) (hv : v = word b) (w : World) :
    Calls Try.prog 30 #[.agg #[.int .i64 b.at_, .int .i64 b.size, .int .i64 b.kind, .int .i64 b.ty, .bool b.mark, .int .u64 b.next.toNat]] w fun e w' => e = .returned (.int .u64 v.toNat) ∧ Below w.heap.size w w' := by
  have B : Below w.heap.size w w := Below.refl _ _
  have WT := Lib.hid (fun w => WordHR_any b hb v hv w)
  clear hb hv
  go_enter Try.func30, Try.ntmps30
  go_upto_region 1 with (fail)
  refine wp_gen (fun Wv => Bx Wv (w.heap.size) (38) (#[.int .i64 b.at_, .int .i64 b.size, .int .i64 b.kind, .int .i64 b.ty, .bool b.mark, .int .u64 b.next.toNat]) ∧ Below w.heap.size w Wv) ⟨((Bx.at_ (by simp))), ((Below.refl _ w).alloc (by simp <;> omega) _)⟩ ?_
  rintro wa1 ⟨g1, b⟩
  replace B := B.trans (b.mono B.size); clear b
  have c_g1 := g1.cell; have f_g1 := g1.free; have a_g1 := fun o => (g1.alloc o).cell; have d_g1 := fun o o2 => ((g1.alloc o).alloc o2).cell; have e_g1 := fun o => (g1.alloc o).free
  go_wp2_with fail
  refine (WT.out _).mono ?_
  rintro e wa2 ⟨rfl, b⟩
  try clear c_g1 f_g1 a_g1 d_g1 e_g1
  replace g1 := g1.below b; have c_g1 := g1.cell; have f_g1 := g1.free; have a_g1 := fun o => (g1.alloc o).cell; have d_g1 := fun o o2 => ((g1.alloc o).alloc o2).cell; have e_g1 := fun o => (g1.alloc o).free; replace B := B.trans (b.mono B.size); clear b
  go_wp2
  go_ret
  exact ⟨rfl, B⟩
end Go.Proofs.Ythlappdngpjdeaa
