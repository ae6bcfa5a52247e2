/- Contracts of the functions that the laws 'K' reach, part 2. No condition. -/
import Derived.Test.YtodbbacmdjcheaaMKa
set_option linter.unusedVariables false
set_option linter.unusedSimpArgs false
namespace Go.Proofs.Ytodbbacmdjcheaa.L19
open L02 L07 L13 L14 L15 L18
/-- eight words are 0 -/
def Zr (l : List UInt64) (a : Nat) : Prop := ∀ i, i < 8 → l.getD (a + i) 0 = 0
instance (l : List UInt64) (a : Nat) : Decidable (Zr l a) := inferInstanceAs (Decidable (∀ i, i < 8 → _))
def objs (L : List Hb) : List Hb := L.filter fun b => decide (b.kind = 1)
/-- an object begins at an address -/
def IsObj (O : List Hb) (a : Int) : Prop := ∃ b ∈ O, b.at_ = a
instance (O : List Hb) (a : Int) : Decidable (IsObj O a) := inferInstanceAs (Decidable (∃ b ∈ O, _))
def kindsB (T : List (List UInt8)) (b : Hb) : List UInt8 := T.getD b.ty.toNat []
def fw (l : List UInt64) (b : Hb) (i : Nat) : UInt64 := l.getD (b.at_.toNat + 2 + i) 0
def Idle (b : Hb) : Prop := b.mark = false ∧ b.next = 0
instance (b : Hb) : Decidable (Idle b) := inferInstanceAs (Decidable (_ ∧ _))
def Typed (T : List (List UInt8)) (b : Hb) : Prop := b.ty < T.length ∧ b.size = 2 + (((kindsB T b).length + 1) / 2 * 2 : Nat)
instance (T : List (List UInt8)) (b : Hb) : Decidable (Typed T b) := inferInstanceAs (Decidable (_ ∧ _))
def Padded (l : List UInt64) (T : List (List UInt8)) (b : Hb) : Prop := (kindsB T b).length % 2 = 0 ∨ fw l b (kindsB T b).length = 0
instance (l : List UInt64) (T : List (List UInt8)) (b : Hb) : Decidable (Padded l T b) := inferInstanceAs (Decidable (_ ∨ _))
def FloatsB (l : List UInt64) (T : List (List UInt8)) (b : Hb) : Prop := ∀ i, i < (kindsB T b).length → ((kindsB T b).getD i 0).toNat = 2 → L20.FloatOk (fw l b i)
instance (l : List UInt64) (T : List (List UInt8)) (b : Hb) : Decidable (FloatsB l T b) := inferInstanceAs (Decidable (∀ i, i < _ → _))
def RefsB (l : List UInt64) (T : List (List UInt8)) (O : List Hb) (b : Hb) : Prop := ∀ i, i < (kindsB T b).length → ((kindsB T b).getD i 0).toNat = 3 → (fw l b i = 0 ∨ IsObj O (fw l b i).toNat)
instance (l : List UInt64) (T : List (List UInt8)) (O : List Hb) (b : Hb) : Decidable (RefsB l T O b) := inferInstanceAs (Decidable (∀ i, i < _ → _))
/-- what an object must have, by the number of the reason -/
def Good (l : List UInt64) (T : List (List UInt8)) (O : List Hb) (r : Nat) (b : Hb) : Prop :=
  match r with
  | 7 => Idle b
  | 8 => Typed T b
  | 9 => Padded l T b
  | 10 => FloatsB l T b
  | _ => RefsB l T O b
instance (l : List UInt64) (T : List (List UInt8)) (O : List Hb) (r : Nat) (b : Hb) : Decidable (Good l T O r b) := by
  unfold Good; split <;> infer_instance
def AllGood (l : List UInt64) (T : List (List UInt8)) (O : List Hb) (r : Nat) : Prop := ∀ b ∈ O, Good l T O r b
instance (l : List UInt64) (T : List (List UInt8)) (O : List Hb) (r : Nat) : Decidable (AllGood l T O r) := inferInstanceAs (Decidable (∀ b ∈ O, _))
def SlotsGood (S : List Sl) (O : List Hb) : Prop := ∀ s ∈ S, s.used = true → IsObj O s.at_
instance (S : List Sl) (O : List Hb) : Decidable (SlotsGood S O) := inferInstanceAs (Decidable (∀ s ∈ S, _ → _))
/-- the types, the slots, the blocks, the objects of an image -/
def T19 (l : List UInt64) : List (List UInt8) := tabT l (sT l)
def O19 (l : List UInt64) : List Hb := objs (allL l)
/-- the first of the reasons 1 to 6 -/
def why6 (l : List UInt64) : Nat :=
  if rErr l ≠ 0 then 1 else if ¬ Zr l 16 then 2 else if ¬ Zr l 24 then 3 else if tabErr l (sT l) ≠ 0 then 4 else if openErr l ≠ 0 then 5 else if allErr l ≠ 0 then 6 else 0
/-- the first of the reasons r to 11, or 0 -/
def whyO (l : List UInt64) (T : List (List UInt8)) (O : List Hb) : Nat → Nat → Nat
  | 0, _ => 0
  | f + 1, r => if AllGood l T O r then whyO l T O f (r + 1) else r
def why (l : List UInt64) : Nat :=
  if why6 l ≠ 0 then why6 l else if whyO l (T19 l) (O19 l) 5 7 ≠ 0 then whyO l (T19 l) (O19 l) 5 7 else if SlotsGood (slots l) (O19 l) then 0 else 12
def chk19 (l : List UInt64) : Int := if SizeOk l.length then (if why l = 0 then 0 else 50) else 8
theorem whyO_zero {l : List UInt64} {T : List (List UInt8)} {O : List Hb} : ∀ (f r : Nat), 0 < r → (whyO l T O f r = 0 ↔ ∀ i, r ≤ i → i < r + f → AllGood l T O i)
  | 0, r, _ => ⟨fun _ i h1 h2 => by omega, fun _ => rfl⟩
  | f + 1, r, hr => by
    rw [whyO]
    by_cases h : AllGood l T O r
    · rw [if_pos h, whyO_zero f (r + 1) (by omega)]
      refine ⟨fun h2 i h3 h4 => ?_, fun h2 i h3 h4 => h2 i (by omega) (by omega)⟩
      by_cases hi : i = r
      · subst hi; exact h
      · exact h2 i (by omega) (by omega)
    · rw [if_neg h]
      exact ⟨fun h2 => by omega, fun h2 => absurd (h2 r (Nat.le_refl _) (by omega)) h⟩
theorem why6_zero {l : List UInt64} : why6 l = 0 ↔ rErr l = 0 ∧ Zr l 16 ∧ Zr l 24 ∧ tabErr l (sT l) = 0 ∧ openErr l = 0 ∧ allErr l = 0 := by
  unfold why6
  by_cases h1 : rErr l = 0 <;> by_cases h2 : Zr l 16 <;> by_cases h3 : Zr l 24 <;> by_cases h4 : tabErr l (sT l) = 0 <;> by_cases h5 : openErr l = 0 <;> by_cases h6 : allErr l = 0 <;> simp [h1, h2, h3, h4, h5, h6]
theorem why_zero {l : List UInt64} : why l = 0 ↔ why6 l = 0 ∧ (∀ i, 7 ≤ i → i < 12 → AllGood l (T19 l) (O19 l) i) ∧ SlotsGood (slots l) (O19 l) := by
  have h := whyO_zero (l := l) (T := T19 l) (O := O19 l) 5 7 (by omega)
  unfold why
  by_cases h1 : why6 l = 0
  · simp only [h1, ne_eq, not_true, if_false, true_and]
    by_cases h2 : whyO l (T19 l) (O19 l) 5 7 = 0
    · simp only [h2, ne_eq, not_true, if_false]
      have h2' := h.1 h2
      by_cases h3 : SlotsGood (slots l) (O19 l)
      · simp only [h3, if_true, and_true, true_iff]; exact h2'
      · simp [h3]
    · simp only [ne_eq, h2, not_false_eq_true, if_true, false_iff]
      exact fun hh => h2 (h.2 hh.1)
  · simp [h1]
theorem chk19_ok {l : List UInt64} (h : chk19 l = 0) : SizeOk l.length ∧ why l = 0 := by
  unfold chk19 at h
  split at h
  · split at h
    · rename_i h1 h2; exact ⟨h1, h2⟩
    · omega
  · omega
end Go.Proofs.Ytodbbacmdjcheaa.L19
namespace Go.Proofs.Ytodbbacmdjcheaa.L19
open L02 L07 L13 L14 L15 L18
theorem getD_set_ne {l : List UInt64} {p k : Nat} {v : UInt64} (h : p ≠ k) : (l.set p v).getD k 0 = l.getD k 0 := by
  rw [List.getD_eq_getElem?_getD, List.getD_eq_getElem?_getD, List.getElem?_set_ne h]
theorem getD_set_self {l : List UInt64} {p : Nat} {v : UInt64} (h : p < l.length) : (l.set p v).getD p 0 = v := by
  rw [List.getD_eq_getElem?_getD, List.getElem?_set_self h]; rfl
/-- words below an address do not matter for the blocks from there on -/
theorem stOk_set {l : List UInt64} {p k : Nat} {v : UInt64} (h : p ≠ k) : StOk (l.set p v) k ↔ StOk l k := by
  unfold StOk; rw [getD_set_ne h, List.length_set]
theorem szN_set {l : List UInt64} {p k : Nat} {v : UInt64} (h : p ≠ k) : szN (l.set p v) k = szN l k := by
  unfold szN; rw [getD_set_ne h]
theorem stand_set1 {l : List UInt64} {p k : Nat} {v : UInt64} (h : p ≠ k) : stand (l.set p v) k = { stand l k with next := (l.set p v).getD (k + 1) 0 } := by
  unfold stand; rw [getD_set_ne h]
/-- a chain stays a chain where no first word is changed -/
theorem chain_set {l : List UInt64} {p k : Nat} {v : UInt64} {L : List Hb} (h : Chain l k L) (hp : ∀ b ∈ L, b.at_ ≠ (p : Int)) : Chain (l.set p v) k (L.map fun b => { b with next := (l.set p v).getD (b.at_.toNat + 1) 0 }) := by
  induction h with
  | nil =>
    have h0 : Chain (l.set p v) (l.set p v).length [] := .nil
    rw [List.length_set] at h0
    exact h0
  | cons hk hs hc ih =>
    rename_i k L
    have hpk : p ≠ k := fun e => hp _ List.mem_cons_self (by rw [stand_at, e])
    have h1 := ih fun b hb => hp b (List.mem_cons_of_mem _ hb)
    rw [List.map_cons, stand_at, Int.toNat_natCast]
    show Chain (l.set p v) k ({ stand l k with next := (l.set p v).getD (k + 1) 0 } :: _)
    rw [show ({ stand l k with next := (l.set p v).getD (k + 1) 0 } : Hb) = stand (l.set p v) k from (stand_set1 hpk).symm]
    refine .cons (by rw [List.length_set]; exact hk) ((stOk_set hpk).2 hs) ?_
    rw [szN_set hpk]; exact h1
/-- the parts in front of the heap -/
theorem c0_set {l : List UInt64} {p : Nat} {v : UInt64} (h : 8 ≤ p) : c0 (l.set p v) = c0 l := by
  unfold c0; rw [List.take_set_of_le h]
theorem c1_set {l : List UInt64} {p : Nat} {v : UInt64} (h : 16 ≤ p) : c1 (l.set p v) = c1 l := by
  unfold c1; rw [List.drop_set, if_neg (by omega), List.take_set_of_le (by omega)]
theorem rErr_set {l : List UInt64} {p : Nat} {v : UInt64} (h : 16 ≤ p) : rErr (l.set p v) = rErr l ∧ sT (l.set p v) = sT l ∧ sW (l.set p v) = sW l := by
  have e0 : is0 (l.set p v) = is0 l := by unfold is0; rw [c0_set (by omega), List.length_set]
  have e1 : is1 (l.set p v) = is1 l := by unfold is1; rw [c1_set h, List.length_set]
  have e2 : rErr (l.set p v) = rErr l := by unfold rErr; rw [e0, e1, List.length_set]
  refine ⟨e2, ?_, ?_⟩
  · unfold sT one; rw [e2, e0, c0_set (by omega), c1_set h]
  · unfold sW; rw [e2, List.length_set]
theorem zr_set {l : List UInt64} {p a : Nat} {v : UInt64} (h : p < a ∨ a + 8 ≤ p) : Zr (l.set p v) a ↔ Zr l a := by
  unfold Zr
  constructor <;> intro hh i hi <;> have := hh i hi <;> rw [getD_set_ne (by omega)] at * <;> exact this
theorem ta_set {l : List UInt64} {p i : Nat} {v : UInt64} (h : p < 96 ∨ 112 ≤ p) (hi : i < 8) : ta (l.set p v) i = ta l i ∧ tb (l.set p v) i = tb l i := by
  unfold ta tb; exact ⟨getD_set_ne (by omega), getD_set_ne (by omega)⟩
theorem tabErr_set {l : List UInt64} {p : Nat} {v : UInt64} (h : p < 96 ∨ 112 ≤ p) (n : Int) : tabErr (l.set p v) n = tabErr l n ∧ tabT (l.set p v) n = tabT l n := by
  have e : ∀ k, TysOk (l.set p v) k ↔ TysOk l k := fun k => by
    unfold TysOk
    constructor <;> intro hh i hi <;> have := hh i hi <;> unfold TyOk at * <;> rw [(ta_set h hi).1, (ta_set h hi).2] at * <;> exact this
  have e2 : tabErr (l.set p v) n = tabErr l n := by
    unfold tabErr; rw [List.length_set]; simp only [e]
  refine ⟨e2, ?_⟩
  unfold tabT
  rw [e2]
  by_cases h0 : tabErr l n = 0
  · rw [if_pos h0, if_pos h0]
    have hn : n.toNat ≤ 8 := by
      unfold tabErr at h0
      split at h0
      · split at h0
        · omega
        · omega
      · omega
    unfold tysTo
    refine List.map_congr_left fun i hi => ?_
    have := List.mem_range.1 hi
    rw [(ta_set h (by omega)).1, (ta_set h (by omega)).2]
  · rw [if_neg h0, if_neg h0]
theorem open_set {l : List UInt64} {p : Nat} {v : UInt64} (h : p < 112 ∨ 128 ≤ p) : openErr (l.set p v) = openErr l ∧ slots (l.set p v) = slots l := by
  have e : ws (l.set p v) = ws l := by
    unfold ws
    rw [List.drop_set]
    split
    · rfl
    · rw [List.take_set_of_le (by omega)]
  refine ⟨?_, by unfold slots; rw [e]⟩
  have e2 : AllR (l.set p v) ↔ AllR l := by unfold AllR; rw [e]
  unfold openErr; rw [List.length_set]; simp only [e2]
/-- the words of fields -/
theorem fw_set {l : List UInt64} {p i : Nat} {v : UInt64} {b : Hb} (h : p ≠ b.at_.toNat + 2 + i) : fw (l.set p v) b i = fw l b i := getD_set_ne h
/-- where the blocks of a chain lie -/
theorem chain_apart {l : List UInt64} {k : Nat} {L : List Hb} (h : Chain l k L) : (∀ b ∈ L, (k : Int) ≤ b.at_) ∧ L.Pairwise fun a b => a.at_ + a.size ≤ b.at_ := by
  induction h with
  | nil => exact ⟨fun b hb => (by cases hb), .nil⟩
  | cons hk hs hc ih =>
    rename_i k L
    have hz := szN_ge hs
    have hst := stand_size hs
    refine ⟨fun b hb => ?_, List.pairwise_cons.2 ⟨fun b hb => ?_, ih.2⟩⟩
    · rcases List.mem_cons.1 hb with rfl | hb
      · exact Int.le_refl _
      · have := ih.1 b hb; omega
    · have := ih.1 b hb
      rw [stand_at, hst]; omega
theorem apart_of {L : List Hb} (h : L.Pairwise fun a b => a.at_ + a.size ≤ b.at_) {a b : Hb} (ha : a ∈ L) (hb : b ∈ L) : a = b ∨ a.at_ + a.size ≤ b.at_ ∨ b.at_ + b.size ≤ a.at_ := by
  induction h with
  | nil => cases ha
  | cons h1 _ ih =>
    rcases List.mem_cons.1 ha with e1 | ha
    · rcases List.mem_cons.1 hb with e2 | hb
      · exact .inl (e1.trans e2.symm)
      · rw [e1]; exact .inr (.inl (h1 b hb))
    · rcases List.mem_cons.1 hb with e2 | hb
      · rw [e2]; exact .inr (.inr (h1 a ha))
      · exact ih ha hb
/-- a block of a heap -/
theorem all_mem {l : List UInt64} (h : allErr l = 0) {b : Hb} (hb : b ∈ allL l) : ∃ a : Nat, 128 ≤ a ∧ a < l.length ∧ StOk l a ∧ b = stand l a ∧ a % 2 = 0 := by
  obtain ⟨a, h1, h2, h3, h4, h5⟩ := chain_mem (chain_iff.1 (parsed_ok.1 (allErr_ok h).2).1) b hb
  exact ⟨a, h1, h2, h3, h4, h5 rfl⟩
theorem all_apart {l : List UInt64} (h : allErr l = 0) {a b : Hb} (ha : a ∈ allL l) (hb : b ∈ allL l) : a = b ∨ a.at_ + a.size ≤ b.at_ ∨ b.at_ + b.size ≤ a.at_ :=
  apart_of (chain_apart (chain_iff.1 (parsed_ok.1 (allErr_ok h).2).1)).2 ha hb
theorem objs_mem {L : List Hb} {b : Hb} : b ∈ objs L ↔ b ∈ L ∧ b.kind = 1 := by unfold objs; rw [List.mem_filter]; simp
end Go.Proofs.Ytodbbacmdjcheaa.L19
namespace Go.Proofs.Ytodbbacmdjcheaa.L19
open L02 L07 L13 L14 L15 L18
theorem objs_at {l : List UInt64} (h : allErr l = 0) {b : Hb} (hb : b ∈ O19 l) : ∃ a : Nat, 128 ≤ a ∧ b.at_ = a ∧ b.size = szN l a ∧ a + szN l a ≤ l.length ∧ StOk l a ∧ b = stand l a ∧ b.kind = 1 ∧ 2 ≤ szN l a ∧ a % 2 = 0 := by
  obtain ⟨hm, hk⟩ := objs_mem.1 hb
  obtain ⟨a, h1, h2, h3, h4, h5⟩ := all_mem h hm
  have hz := szN_ge h3
  exact ⟨a, h1, by rw [h4]; rfl, by rw [h4]; exact stand_size h3, hz.2.2.2.1, h3, h4, hk, hz.1, h5⟩
/-- a word of an object behind its first two -/
theorem obj_set {l : List UInt64} (h : allErr l = 0) {b : Hb} (hb : b ∈ O19 l) {p : Nat} {v : UInt64} (h1 : b.at_ + 2 ≤ p) (h2 : (p : Int) < b.at_ + b.size) :
    allErr (l.set p v) = 0 ∧ allL (l.set p v) = allL l := by
  obtain ⟨hs, hp⟩ := allErr_ok h
  obtain ⟨hfr, hadj⟩ := parsed_ok.1 hp
  obtain ⟨hbm, hbk⟩ := objs_mem.1 hb
  have far : ∀ c ∈ allL l, c.at_ ≠ (p : Int) ∧ p ≠ c.at_.toNat + 1 := fun c hc => by
    obtain ⟨a, _, _, h3, h4, _⟩ := all_mem h hc
    have hz := szN_ge h3
    have hsz : c.size = szN l a := by rw [h4]; exact stand_size h3
    have hat : c.at_ = a := by rw [h4]; rfl
    rcases all_apart h hbm hc with rfl | h5 | h5 <;> omega
  have hc := chain_set (v := v) (chain_iff.1 hfr) (fun c hc => (far c hc).1)
  have hid : (allL l).map (fun c => { c with next := (l.set p v).getD (c.at_.toNat + 1) 0 }) = allL l := by
    refine List.map_congr_left (g := id) (fun c hc => ?_) |>.trans (List.map_id _)
    obtain ⟨a, _, _, h3, h4, _⟩ := all_mem h hc
    have hat : c.at_ = a := by rw [h4]; rfl
    show { c with next := (l.set p v).getD (c.at_.toNat + 1) 0 } = c
    rw [getD_set_ne (far c hc).2, hat, Int.toNat_natCast]
    rw [h4]; rfl
  rw [hid] at hc
  have hp2 : parsed (l.set p v) = some (allL l) := parsed_ok.2 ⟨from_chain hc, hadj⟩
  have he : allErr (l.set p v) = 0 := by unfold allErr; rw [List.length_set, if_pos hs, hp2]; rfl
  exact ⟨he, by rw [allL, if_pos he, hp2]; rfl⟩
/-- a right image, by its parts -/
structure Rt (l : List UInt64) : Prop where
  sz : SizeOk l.length
  tw : rErr l = 0
  z16 : Zr l 16
  z24 : Zr l 24
  ty : tabErr l (sT l) = 0
  sl : openErr l = 0
  al : allErr l = 0
  good : ∀ i, 7 ≤ i → i < 12 → AllGood l (T19 l) (O19 l) i
  slots : SlotsGood (slots l) (O19 l)
theorem Rt.of {l : List UInt64} (h : chk19 l = 0) : Rt l := by
  obtain ⟨hs, hw⟩ := chk19_ok h
  obtain ⟨h6, hg, hsl⟩ := why_zero.1 hw
  obtain ⟨a, b, c, d, e, f⟩ := why6_zero.1 h6
  exact ⟨hs, a, b, c, d, e, f, hg, hsl⟩
theorem Rt.why {l : List UInt64} (h : Rt l) : why l = 0 := why_zero.2 ⟨why6_zero.2 ⟨h.tw, h.z16, h.z24, h.ty, h.sl, h.al⟩, h.good, h.slots⟩
theorem Rt.chk {l : List UInt64} (h : Rt l) : chk19 l = 0 := by rw [chk19, if_pos h.sz, if_pos h.why]
/-- the parts of an image with another field -/
structure FS (l : List UInt64) (b : Hb) (i p : Nat) (v : UInt64) : Prop where
  tw : rErr (l.set p v) = 0
  sT : sT (l.set p v) = sT l
  z16 : Zr (l.set p v) 16
  z24 : Zr (l.set p v) 24
  ty : tabErr (l.set p v) (L07.sT l) = 0
  tyT : T19 (l.set p v) = T19 l
  sl : openErr (l.set p v) = 0
  slL : slots (l.set p v) = slots l
  al : allErr (l.set p v) = 0
  alL : allL (l.set p v) = allL l
  fwb : fw (l.set p v) b i = v
  fwo : ∀ c ∈ O19 l, ∀ j, j ≤ (kindsB (T19 l) c).length → ((kindsB (T19 l) c).length % 2 = 0 → j < (kindsB (T19 l) c).length) → (c ≠ b ∨ j ≠ i) → fw (l.set p v) c j = fw l c j
theorem Rt.fs {l : List UInt64} (h : Rt l) {b : Hb} (hb : b ∈ O19 l) {i p : Nat} (v : UInt64) (hi : i < (kindsB (T19 l) b).length) (hp : p = b.at_.toNat + 2 + i) : FS l b i p v := by
  obtain ⟨a, h1, h2, h3, h4, h5, h6, h7, h8, _⟩ := objs_at h.al hb
  have hsz := (h.good 8 (by omega) (by omega) b hb).2
  have hpb : b.at_ + 2 ≤ p ∧ (p : Int) < b.at_ + b.size := by omega
  have ho := obj_set (v := v) h.al hb hpb.1 hpb.2
  have a1 := rErr_set (l := l) (v := v) (p := p) (by omega)
  have a4 := tabErr_set (l := l) (v := v) (p := p) (by omega)
  have a5 := open_set (l := l) (v := v) (p := p) (by omega)
  refine ⟨a1.1.trans h.tw, a1.2.1, (zr_set (by omega)).2 h.z16, (zr_set (by omega)).2 h.z24, (a4 _).1.trans h.ty, by unfold T19; rw [a1.2.1, (a4 _).2], a5.1.trans h.sl, a5.2, ho.1, ho.2, ?_, ?_⟩
  · unfold fw; rw [← hp]; exact getD_set_self (by omega)
  · intro c hc j hj hj2 hne
    refine fw_set ?_
    obtain ⟨a', g1, g2, g3, g4, g5, g6, _, _, _⟩ := objs_at h.al hc
    have hsz' := (h.good 8 (by omega) (by omega) c hc).2
    rcases all_apart h.al (objs_mem.1 hb).1 (objs_mem.1 hc).1 with e | h5 | h5
    · subst e
      have := hne.resolve_left (fun h => h rfl)
      omega
    · omega
    · have : (kindsB (T19 l) c).length % 2 = 0 ∨ (kindsB (T19 l) c).length % 2 = 1 := by omega
      omega
/-- the reason of an image with another field -/
theorem FS.why {l : List UInt64} (h : Rt l) {b : Hb} (hb : b ∈ O19 l) {i p : Nat} {v : UInt64} {k : UInt8} (hi : i < (kindsB (T19 l) b).length) (hk : (kindsB (T19 l) b).getD i 0 = k) (f : FS l b i p v) :
    why (l.set p v) = if k.toNat = 2 ∧ ¬ L20.FloatOk v then 10 else if k.toNat = 3 ∧ ¬ (v = 0 ∨ IsObj (O19 l) v.toNat) then 11 else 0 := by
  have eO : O19 (l.set p v) = O19 l := by unfold O19; rw [f.alL]
  have h6 : why6 (l.set p v) = 0 := why6_zero.2 ⟨f.tw, f.z16, f.z24, by rw [f.sT]; exact f.ty, f.sl, f.al⟩
  have g7 : AllGood (l.set p v) (T19 l) (O19 l) 7 := h.good 7 (by omega) (by omega)
  have g8 : AllGood (l.set p v) (T19 l) (O19 l) 8 := h.good 8 (by omega) (by omega)
  have g9 : AllGood (l.set p v) (T19 l) (O19 l) 9 := fun c hc => by
    have := h.good 9 (by omega) (by omega) c hc
    show Padded _ _ _
    have this : Padded l (T19 l) c := this
    rcases this with h1 | h1
    · exact .inl h1
    · by_cases h2 : (kindsB (T19 l) c).length % 2 = 0
      · exact .inl h2
      · refine .inr ?_
        rw [f.fwo c hc _ (Nat.le_refl _) (fun e => absurd e h2)]
        · exact h1
        · by_cases e : c = b
          · subst e; right; omega
          · left; exact e
  have g10 : AllGood (l.set p v) (T19 l) (O19 l) 10 ↔ ¬ (k.toNat = 2 ∧ ¬ L20.FloatOk v) := by
    constructor
    · intro hh h2
      have := hh b hb i hi (by rw [hk]; exact h2.1)
      rw [f.fwb] at this; exact h2.2 this
    · intro hh c hc j hj hj2
      by_cases e : c = b ∧ j = i
      · obtain ⟨rfl, rfl⟩ := e
        rw [f.fwb]
        rw [hk] at hj2
        exact Decidable.not_not.1 fun h3 => hh ⟨hj2, h3⟩
      · rw [f.fwo c hc j (by omega) (fun _ => hj) (by
          by_cases e1 : c = b
          · right; exact fun e2 => e ⟨e1, e2⟩
          · left; exact e1)]
        exact h.good 10 (by omega) (by omega) c hc j hj hj2
  have g11 : AllGood (l.set p v) (T19 l) (O19 l) 11 ↔ ¬ (k.toNat = 3 ∧ ¬ (v = 0 ∨ IsObj (O19 l) v.toNat)) := by
    constructor
    · intro hh h2
      have := hh b hb i hi (by rw [hk]; exact h2.1)
      rw [f.fwb] at this; exact h2.2 this
    · intro hh c hc j hj hj2
      by_cases e : c = b ∧ j = i
      · obtain ⟨rfl, rfl⟩ := e
        rw [f.fwb]
        rw [hk] at hj2
        exact Decidable.not_not.1 fun h3 => hh ⟨hj2, h3⟩
      · rw [f.fwo c hc j (by omega) (fun _ => hj) (by
          by_cases e1 : c = b
          · right; exact fun e2 => e ⟨e1, e2⟩
          · left; exact e1)]
        exact h.good 11 (by omega) (by omega) c hc j hj hj2
  unfold L19.why
  rw [h6, eO, f.tyT, f.slL]
  simp only [whyO, if_pos g7, if_pos g8, if_pos g9]
  have hs := h.slots
  by_cases c2 : k.toNat = 2 ∧ ¬ L20.FloatOk v
  · rw [if_pos c2, if_neg (fun h => g10.1 h c2)]; rfl
  · rw [if_neg c2, if_pos (g10.2 c2)]
    by_cases c3 : k.toNat = 3 ∧ ¬ (v = 0 ∨ IsObj (O19 l) v.toNat)
    · rw [if_pos c3, if_neg (fun h => g11.1 h c3)]; rfl
    · rw [if_neg c3, if_pos (g11.2 c3)]
      simp [hs]
end Go.Proofs.Ytodbbacmdjcheaa.L19
namespace Go.Proofs.Ytodbbacmdjcheaa.L19
open L02 L05 L06 L07 L13 L14 L15 L18
/-- words written from an address on -/
def putW (l : List UInt64) (a : Nat) : List UInt64 → List UInt64
  | [] => l
  | x :: xs => putW (l.set a x) (a + 1) xs
theorem putW_len : ∀ (xs : List UInt64) (l : List UInt64) (a : Nat), (putW l a xs).length = l.length
  | [], l, a => rfl
  | x :: xs, l, a => by rw [putW, putW_len xs]; simp
end Go.Proofs.Ytodbbacmdjcheaa.L19
namespace Go.Proofs.Ytodbbacmdjcheaa.L73
open L02 L05 L06 L13 L14 L19
theorem putP_getD : ∀ (m l : List UInt64) (a i : Nat), a + m.length ≤ l.length → (putW l a m).getD i 0 = if a ≤ i ∧ i < a + m.length then m.getD (i - a) 0 else l.getD i 0
  | [], l, a, i, h => by rw [putW, if_neg (by rw [List.length_nil]; omega)]
  | x :: xs, l, a, i, h => by
    rw [List.length_cons] at h
    rw [putW, putP_getD xs _ _ _ (by rw [List.length_set]; omega), List.length_cons]
    by_cases h1 : i = a
    · subst h1
      rw [if_neg (by omega), if_pos (by omega), List.getD_eq_getElem?_getD, List.getElem?_set_self (by omega), Nat.sub_self]; rfl
    · by_cases h2 : a + 1 ≤ i ∧ i < a + 1 + xs.length
      · rw [if_pos h2, if_pos (by omega), show i - a = (i - (a + 1)) + 1 by omega]; rfl
      · rw [if_neg h2, if_neg (by omega), List.getD_eq_getElem?_getD, List.getElem?_set_ne (by omega), ← List.getD_eq_getElem?_getD]
/-- the words of the types -/
def tysP (l : List UInt64) (T : List (List UInt8)) : Nat → List UInt64
  | 0 => l
  | k + 1 => putW (tysP l T k) (96 + 2 * k) [w0 (T.getD k []), w1 (T.getD k [])]
theorem tysP_len (l : List UInt64) (T : List (List UInt8)) : ∀ k, (tysP l T k).length = l.length
  | 0 => rfl
  | k + 1 => by rw [tysP, putW_len, tysP_len l T k]
/-- the new image -/
def imageP (n : Nat) (T : List (List UInt8)) : List UInt64 :=
  putW (putW (putW (tysP (List.replicate n 0) T T.length) 0 (wordsOf n T.length)) 8 (wordsOf n T.length)) 128 [word ⟨0, (n : Int) - 128, 2, 0, false, 0⟩]
theorem imageP_len (n : Nat) (T : List (List UInt8)) : (imageP n T).length = n := by
  rw [imageP, putW_len, putW_len, putW_len, tysP_len, List.length_replicate]
theorem tysP_getD (l : List UInt64) (T : List (List UInt8)) (hl : 112 ≤ l.length) : ∀ k, k ≤ 8 → ∀ i, i < k → (tysP l T k).getD (96 + 2 * i) 0 = w0 (T.getD i []) ∧ (tysP l T k).getD (97 + 2 * i) 0 = w1 (T.getD i [])
  | 0, _, i, h => by omega
  | k + 1, hk, i, h => by
    have hlen := tysP_len l T k
    rw [tysP, putP_getD _ _ _ _ (by rw [hlen]; simp; omega), putP_getD _ _ _ _ (by rw [hlen]; simp; omega)]
    by_cases e : i = k
    · subst e
      rw [if_pos (by simp), if_pos (by simp; omega), Nat.sub_self, show 97 + 2 * i - (96 + 2 * i) = 1 by omega]
      exact ⟨rfl, rfl⟩
    · rw [if_neg (by simp; omega), if_neg (by simp; omega)]
      exact tysP_getD l T hl k (by omega) i (by omega)
theorem imageP_at {n : Nat} {T : List (List UInt8)} (hn : 256 ≤ n) (hT : T.length ≤ 8) : (∀ i, i < 8 → (imageP n T).getD i 0 = (wordsOf n T.length).getD i 0) ∧ ∀ i, i < T.length → (imageP n T).getD (96 + 2 * i) 0 = w0 (T.getD i []) ∧ (imageP n T).getD (97 + 2 * i) 0 = w1 (T.getD i []) := by
  have h8 : (wordsOf n T.length).length = 8 := len_words _ _
  have hl : (tysP (List.replicate n 0) T T.length).length = n := by rw [tysP_len, List.length_replicate]
  have e1 : ∀ i, i < 128 → (imageP n T).getD i 0 = (putW (putW (tysP (List.replicate n 0) T T.length) 0 (wordsOf n T.length)) 8 (wordsOf n T.length)).getD i 0 := fun i hi => by
    rw [imageP, putP_getD _ _ _ _ (by rw [putW_len, putW_len, hl]; simp; omega), if_neg (by simp; omega)]
  have e2 : ∀ i, (putW (putW (tysP (List.replicate n 0) T T.length) 0 (wordsOf n T.length)) 8 (wordsOf n T.length)).getD i 0 = if 8 ≤ i ∧ i < 16 then (wordsOf n T.length).getD (i - 8) 0 else if i < 8 then (wordsOf n T.length).getD i 0 else (tysP (List.replicate n 0) T T.length).getD i 0 := fun i => by
    rw [putP_getD _ _ _ _ (by rw [putW_len, hl, h8]; omega), putP_getD _ _ _ _ (by rw [hl, h8]; omega), h8]
    by_cases a : 8 ≤ i ∧ i < 16
    · rw [if_pos (show 8 ≤ i ∧ i < 8 + 8 from a), if_pos a]
    · rw [if_neg (show ¬ (8 ≤ i ∧ i < 8 + 8) from a), if_neg a]
      by_cases b : i < 8
      · rw [if_pos (show 0 ≤ i ∧ i < 0 + 8 by omega), if_pos b]; rfl
      · rw [if_neg (show ¬ (0 ≤ i ∧ i < 0 + 8) by omega), if_neg b]
  refine ⟨fun i hi => by rw [e1 i (by omega), e2, if_neg (by omega), if_pos hi], fun i hi => ?_⟩
  rw [e1 _ (by omega), e1 _ (by omega), e2, e2, if_neg (by omega), if_neg (by omega), if_neg (by omega), if_neg (by omega)]
  exact tysP_getD _ T (by rw [List.length_replicate]; omega) T.length hT i hi
end Go.Proofs.Ytodbbacmdjcheaa.L73
namespace Go.Proofs.Ytodbbacmdjcheaa
open Go.RowKit
section
variable {P : Program} {ops : Array Oper} {rest : List Oper} {o : Oper} {a : Act} {Q : Exit → Act → World → Prop} {w : World}
theorem info3 {e : TypeId} {z : Value} {sz by_ : Nat} (hi : (P.info? e).map (fun i => (i.zero, i.size, i.bytes)) = some (some z, sz, by_)) :
    ∃ i, P.info? e = some i ∧ i.zero = some z ∧ i.size = sz ∧ i.bytes = by_ := by
  obtain ⟨i, h1, h2⟩ := Option.map_eq_some_iff.1 hi
  simp only [Prod.mk.injEq] at h2
  exact ⟨i, h1, h2.1, h2.2.1, h2.2.2⟩
theorem wpList_wanted (hw : Region.wanted o (yielded ops a.tmps) = true) (h : ∀ K : Act → World → Prop, (∀ a w, wpList P ops Q rest a w → K a w) → o.wp P a w K Q) : wpList P ops Q (o :: rest) a w := by
  unfold wpList
  rw [if_pos hw]
  exact .inl (h _ fun _ _ h => h)
theorem wpList_builtin2 (hgd : Region.wanted o (yielded ops a.tmps) = true) {b : Builtin} {d s : Operand} {ats : Array TypeId} (ho : o.op = .call { callee := .builtin b, args := #[d, s], argTypes := ats })
    {dv sv : Value} (hd : a.eval d = dv) (hs : a.eval s = sv) {v : Value} {w' : World}
    (hrun : ∀ cs, (builtin b ats o.type cs #[dv, sv]).run P w = .ok (.value v) w') (h : wpList P ops Q rest (a.put o.dst v) w') : wpList P ops Q (o :: rest) a w := by
  refine wpList_wanted hgd fun K hK => ?_
  unfold Oper.wp
  simp [execOp, ho, resolve, invoke, hd, hs, hrun]
  exact hK _ _ h
/-- The cell behind an own row, whole. -/
theorem own_form {B e sz n : Nat} {v : Value} {xs : List Value} (h : w.ownsRow B e sz v n xs) (hn : 0 < n) :
    ∃ g cap cur, v = .slice (some ⟨g, 0, none⟩) n cap ∧ B ≤ g ∧ w.heap[g]? = some (.cells cur e (0, 0)) ∧ n ≤ cap ∧ cap ≤ maxLen ∧ cur.size = cap * sz ∧ cur.toList.take (n * sz) = xs := by
  rcases h.2 with ⟨_, h0⟩ | h0
  · omega
  · exact h0
theorem splice_take {α : Type} (L : List α) (off n : Nat) (cs : List α) (h : off + cs.length ≤ n) (hL : off ≤ L.length) : splice (L.take n) off cs = (splice L off cs).take n := by
  unfold splice
  have h1 : (L.take off).length = off := by rw [List.length_take]; omega
  rw [List.take_append, h1, List.take_append, List.take_take, List.take_take, List.drop_take, Nat.min_eq_left (by omega), Nat.min_eq_right (by omega : off ≤ n), List.take_of_length_le (l := cs) (by omega)]
  congr 3
  omega
/-- dv is v[off : off+k] (one cell each). -/
def CutOf (v : Value) (off k : Nat) (dv : Value) : Prop := ∃ A n c, v = .slice A n c ∧ off + k ≤ n ∧ n ≤ c ∧ dv = .slice (if c = off then A else A.map (·.add off)) k (c - off)
theorem CutOf.all {w : World} {B e n : Nat} {v : Value} {xs : List Value} (h : w.ownsRow B e 1 v n xs) : CutOf v 0 n v := by
  rcases h.2 with ⟨rfl, rfl⟩ | ⟨g, cap, cur, rfl, _, _, hc, _⟩
  · exact ⟨none, 0, 0, rfl, by omega, by omega, rfl⟩
  · refine ⟨_, _, _, rfl, by omega, hc, ?_⟩
    split <;> simp [Addr.add]
theorem run_copy_own {dT sT ty e B : Nat} {v dv sv : Value} {n off k m : Nat} {xs ys : List Value} (hu : P.underlying dT = some (.slice e)) (hsz : (P.info? e).map (·.size) = some 1)
    (hown : w.ownsRow B e 1 v n xs) (hd : CutOf v off k dv) (hs : Rd w 1 sv m ys) (h1 : ∀ u ∈ ys, u.oneCell' = true) :
    ∃ w', (Builtin.copy_ #[dT, sT] ty #[dv, sv]).run P w = .ok (.int .i64 (min m k : Nat)) w' ∧ w'.ownsRow B e 1 v n (splice xs off (ys.take k)) ∧ w.grownBy w' v.ownBlock := by
  obtain ⟨A, n', c, hv, hk, hn', rfl⟩ := hd
  obtain ⟨SA, sc, rfl, s1, s2, s3, s4, s5⟩ := hs
  have s3 : ys.length = m := by omega
  have hxl : xs.length = n := by have := hown.1; omega
  have hnn : n' = n := by
    rcases hown.2 with ⟨h, h'⟩ | ⟨g, cap, cur, h, _⟩ <;> rw [hv] at h <;> simp at h <;> omega
  subst hnn
  by_cases h0 : min m k = 0
  · refine ⟨w, ?_, ?_, World.grownBy.refl w _⟩
    · rw [h0]
      exact run_copy_none w dT sT ty e _ SA k _ m sc hu hsz h0
    · have : ys.take k = [] := by apply List.eq_nil_of_length_eq_zero; rw [List.length_take]; omega
      rw [this]; simpa [splice] using hown
  · have hm : 0 < m := by omega
    have hk0 : 0 < k := by omega
    obtain ⟨g, cap, cur, hv', hB, hg, hnc, hcm, hcs, htake⟩ := own_form hown (by omega)
    rw [hv] at hv'
    simp at hv'
    obtain ⟨rfl, rfl⟩ := hv'
    rcases SA with _ | sa
    · have := s4 rfl; omega
    obtain ⟨p1, p2, p3⟩ := s5 hm sa rfl
    have hdst : (if c = off then (some ⟨g, 0, none⟩ : Option Addr) else (some (⟨g, 0, none⟩ : Addr)).map (·.add off)) = some ⟨g, off, none⟩ := by
      rw [if_neg (by omega)]; simp [Addr.add]; intro h; exact h.symm
    have hsrc : ∀ j u, (ys.take k)[j]? = some u → w.cell? (sa.add j) = some u := by
      intro j u hu
      rw [List.getElem?_take] at hu
      split at hu
      · obtain ⟨b, q, s⟩ := sa
        simp at p1; subst p1
        have := p3 j u hu
        rw [show ((⟨b, q, none⟩ : Addr).add j) = ⟨b, q + j, none⟩ by unfold Addr.add; split <;> simp_all]
        exact this
      · cases hu
    have hlen : (ys.take k).length = min m k := by rw [List.length_take, s3, Nat.min_comm]
    have hrun := run_copy_row (P := P) w dT sT ty e g off k (c - off) sa m sc cur e (ys.take k) hu hsz hg hlen hsrc (by rw [hlen, hcs]; omega) (fun u hu => h1 u (List.mem_of_mem_take hu))
    rw [hdst]
    refine ⟨_, by rw [hrun, hlen]; rfl, ?_, ?_⟩
    · rw [hv]
      refine ⟨by rw [length_splice _ _ _ (by rw [hlen]; omega)]; omega, .inr ⟨g, c, _, rfl, hB, setRow_heap w g cur _ e _ hg, hnc, hcm, ?_, ?_⟩⟩
      · simp only [List.size_toArray, List.length_append, List.length_take, List.length_drop, Array.length_toList, hcs, s3]; omega
      · rw [← htake]
        have hcl : cur.toList.length = c := by rw [Array.length_toList]; omega
        rw [Nat.mul_one, splice_take _ _ _ _ (by rw [hlen]; omega) (by omega)]
        simp only [splice, hlen, List.append_assoc]
    · rw [hv]
      exact ⟨rfl, rfl, rfl, by simp [World.setRow], fun i _ hi => setRow_other w g i _ (fun e => hi (by simp [Value.ownBlock, e]))⟩
/-- append(v, lit...), lit a literal of m elements that lies in a block. -/
theorem wpList_append (hgd : Region.wanted o (yielded ops a.tmps) = true) {s x : Operand} {t e B sz by_ : Nat} (ho : o.op = .call { callee := .builtin .append, args := #[s, x], argTypes := #[t, t] })
    {v lv z : Value} {n m : Nat} {xs ys : List Value} (hs : a.eval s = v) (hx : a.eval x = lv) (ht : P.underlying t = some (.slice e))
    (hi : (P.info? e).map (fun i => (i.zero, i.size, i.bytes)) = some (some z, sz, by_)) (hzs : z.cells.size = sz) (hsz : 0 < sz)
    (hown : w.ownsRow B e sz v n xs) (hrd : Rd w sz lv m ys) (h1 : ∀ u ∈ ys, u.oneCell' = true) (h63 : n + m ≤ 9223372036854775807) (hbytes : (n + m) * by_ ≤ 140737488355328)
    {w0 : World} (hb : Below B w0 w) (hB : B ≤ w0.heap.size)
    (h : ∀ v' w', w'.ownsRow B e sz v' (n + m) (xs ++ ys) → Below B w0 w' → w.grownBy w' v.ownBlock → wpList P ops Q rest (a.put o.dst v') w') : wpList P ops Q (o :: rest) a w := by
  obtain ⟨i, hi1, hi2, hi3, hi4⟩ := info3 hi
  obtain ⟨A, c, rfl, s1, s2, s3, s4, s5⟩ := hrd
  rcases A with _ | ad
  · have hc := s4 rfl
    have hm : m = 0 := by omega
    subst hc; subst hm
    have hy : ys = [] := List.eq_nil_of_length_eq_zero (by simpa using s3)
    subst hy
    have hrun := run_append_owned_none (P := P) w B t o.type e i sz ht hi1 v n xs hown
    refine wpList_builtin2 hgd ho hs hx (v := v) (w' := w) (fun cs => ?_) (h v w (by simpa using hown) hb (World.grownBy.refl w _))
    simp only [builtin, Sem.run_bind, hrun, Result.andThen_ok]; rfl
  · obtain ⟨b, q, sp⟩ := ad
    have hcell : ∀ j u, ys[j]? = some u → w.cell? ((⟨b, q, sp⟩ : Addr).add j) = some u := by
      intro j u hu
      have hm : 0 < m := by
        rcases Nat.eq_zero_or_pos m with h0 | h0
        · subst h0
          have : ys = [] := List.eq_nil_of_length_eq_zero (by simpa using s3)
          subst this; simp at hu
        · exact h0
      obtain ⟨p1, p2, p3⟩ := s5 hm _ rfl
      simp at p1; subst p1
      rw [show ((⟨b, q, none⟩ : Addr).add j) = ⟨b, q + j, none⟩ by unfold Addr.add; split <;> simp_all]
      exact p3 j u hu
    refine wpList_wanted hgd fun K hK => ?_
    refine wp_append_own _ s x t ho B e i z sz by_ ht hi1 hi2 hi3 hi4 hzs hsz v n xs hs hown ⟨b, q, sp⟩ m c ys hx s3 hcell h1 (by unfold maxLen; omega) hbytes (Nat.le_trans hB hb.size) fun v' w' g1 g2 g3 => hK _ _ ?_
    exact h v' w' g1 (hb.grown g2 (Nat.le_trans hB hb.size) fun k hk => (hown.lt k hk).1) g2
theorem lit_rdN {w : World} {cs : Array Value} {e : TypeId} {n : Nat} (h : cs.size = n) (hn : n ≤ 9223372036854775807) : Rd (w.alloc (.cells cs e)) 1 (.slice (some ⟨w.heap.size, 0, none⟩) n n) n cs.toList := by
  refine ⟨_, n, rfl, by omega, hn, by simpa using h, fun h => (by cases h), fun _ ad h => ?_⟩
  cases h
  refine ⟨rfl, by simp, fun j u hu => ?_⟩
  rw [show (0 + j) = j by omega, cell_of_row _ w.heap.size j cs e (0, 0) (heap_alloc_new w _)]
  simpa using hu
theorem alloc_sz (w : World) (o : Obj) : (w.alloc o).heap.size = w.heap.size + 1 := by simp
/-- what is known of a block that is known whole, for the walk. -/
theorem blk_cell {w : World} {g : Nat} {cs : Array Value} {e : TypeId} (hg : w.heap[g]? = some (.cells cs e (0, 0))) (i : Nat) : w.cell? ⟨g, i, none⟩ = cs[i]? := cell_of_row w g i cs e (0, 0) hg
theorem blk_free {w : World} {g : Nat} {cs : Array Value} {e : TypeId} (hg : w.heap[g]? = some (.cells cs e (0, 0))) (i : Nat) : w.frozen? ⟨g, i, none⟩ = false := frozen_of_row w g i cs e hg
theorem blk_set {w : World} {g i : Nat} {cs : Array Value} {e : TypeId} (hg : w.heap[g]? = some (.cells cs e (0, 0))) (u : Value) : (w.setCell ⟨g, i, none⟩ u).heap[g]? = some (.cells (cs.setIfInBounds i u) e (0, 0)) := by
  simp [World.setCell, Array.getElem?_modify, hg]
theorem blk_far {w : World} {g : Nat} {p : Addr} {o : Obj} (hg : w.heap[g]? = some o) (hp : g ≠ p.block) (u : Value) : (w.setCell p u).heap[g]? = some o := (Below.heap_setCell w p u g hp).trans hg
theorem blk_new (w : World) (o : Obj) : (w.alloc o).heap[w.heap.size]? = some o := heap_alloc_new w o
theorem blk_old {w : World} {g : Nat} {o : Obj} (hg : w.heap[g]? = some o) (o' : Obj) : (w.alloc o').heap[g]? = some o := (Below.heap_alloc w o' g (Array.getElem?_eq_some_iff.1 hg).1).trans hg
theorem blk_below {w w' : World} {g : Nat} {o : Obj} (hg : w.heap[g]? = some o) (hb : Below w.heap.size w w') : w'.heap[g]? = some o := (hb.block g (Array.getElem?_eq_some_iff.1 hg).1).trans hg
/-- block g is just the cells cs. -/
def Bx (w : World) (g : Nat) (t : TypeId) (cs : Array Value) : Prop := w.heap[g]? = some (.cells cs t (0, 0))
theorem Bx.cell {w : World} {g : Nat} {t : TypeId} {cs : Array Value} (h : Bx w g t cs) (i : Nat) : w.cell? ⟨g, i, none⟩ = cs[i]? := blk_cell h i
theorem Bx.free {w : World} {g : Nat} {t : TypeId} {cs : Array Value} (h : Bx w g t cs) (i : Nat) : w.frozen? ⟨g, i, none⟩ = false := blk_free h i
theorem Bx.lt {w : World} {g : Nat} {t : TypeId} {cs : Array Value} (h : Bx w g t cs) : g < w.heap.size := (Array.getElem?_eq_some_iff.1 h).1
theorem Bx.below {w w' : World} {g : Nat} {t : TypeId} {cs : Array Value} (h : Bx w g t cs) (hb : Below w.heap.size w w') : Bx w' g t cs := blk_below h hb
theorem Bx.alloc {w : World} {g : Nat} {t : TypeId} {cs : Array Value} (h : Bx w g t cs) (o : Obj) : Bx (w.alloc o) g t cs := blk_old h o
theorem Bx.five {w : World} {g : Nat} {t : TypeId} {cs : Array Value} (h : Bx w g t cs) : (∀ i, w.cell? ⟨g, i, none⟩ = cs[i]?) ∧ (∀ i, w.frozen? ⟨g, i, none⟩ = false) ∧ (∀ o i, (w.alloc o).cell? ⟨g, i, none⟩ = cs[i]?) ∧ (∀ o o2 i, ((w.alloc o).alloc o2).cell? ⟨g, i, none⟩ = cs[i]?) ∧ (∀ o i, (w.alloc o).frozen? ⟨g, i, none⟩ = false) :=
  ⟨h.cell, h.free, fun o => (h.alloc o).cell, fun o o2 => ((h.alloc o).alloc o2).cell, fun o => (h.alloc o).free⟩
theorem hD {p : Prop} (h : p) : Hid p := h
theorem Bx.drewN {w : World} {g : Nat} {t : TypeId} {cs : Array Value} (h : Bx w g t cs) (n : Nat) : Bx (w.drewN n) g t cs := h
theorem Bx.set {w : World} {g i : Nat} {t : TypeId} {cs : Array Value} (h : Bx w g t cs) (u : Value) : Bx (w.setCell ⟨g, i, none⟩ u) g t (cs.setIfInBounds i u) := blk_set h u
theorem Bx.far {w : World} {g : Nat} {t : TypeId} {cs : Array Value} (h : Bx w g t cs) {p : Addr} (hp : g ≠ p.block) (u : Value) : Bx (w.setCell p u) g t cs := blk_far h hp u
theorem Bx.new (w : World) (t : TypeId) (cs : Array Value) : Bx (w.alloc (.cells cs t)) w.heap.size t cs := blk_new w _
/-- a part of a block from its head on. -/
theorem lit_part {w : World} {g n c : Nat} {cs : Array Value} {e : TypeId} {fr : Nat × Nat} (hg : w.heap[g]? = some (.cells cs e fr)) (hc : c = cs.size) (hn : n ≤ cs.size) (hm : cs.size ≤ 1048576) : Rd w 1 (.slice (some ⟨g, 0, none⟩) n c) n (cs.toList.take n) := by
  subst hc
  refine ⟨_, _, rfl, hn, by omega, by simp; omega, fun h => (by cases h), fun _ ad h => ?_⟩
  cases h
  refine ⟨rfl, (Array.getElem?_eq_some_iff.1 hg).1, fun j u hu => ?_⟩
  rw [show (0 + j) = j by omega, cell_of_row _ g j cs e fr hg]
  rw [List.getElem?_take] at hu
  split at hu
  · simpa using hu
  · cases hu
theorem part_words {w : World} {g n c : Nat} {cs : Array Value} {e : TypeId} {fr : Nat × Nat} (l : List UInt64) (hg : w.heap[g]? = some (.cells cs e fr)) (hc : c = cs.size) (hn : n = l.length) (hl : cs.toList.take n = l.map u64) (hm : cs.size ≤ 1048576) : Words w (.slice (some ⟨g, 0, none⟩) n c) l := by
  have h2 : n ≤ cs.size := by
    have := congrArg List.length hl
    rw [List.length_take, List.length_map, Array.length_toList] at this
    omega
  have := lit_part hg hc h2 hm
  rw [hl, hn] at this
  rw [hn]; exact this
theorem lit_words {w : World} {cs : Array Value} {e : TypeId} {n : Nat} (l : List UInt64) (h : cs.toList = l.map u64) (hn : n = l.length) (hl : l.length ≤ 1048576) : Words (w.alloc (.cells cs e)) (.slice (some ⟨w.heap.size, 0, none⟩) n n) l := by
  have hs : cs.size = n := by rw [← Array.length_toList, h]; simp [hn]
  have := lit_rdN (w := w) (e := e) hs (by omega)
  rw [h] at this
  subst hn; exact this
theorem lit_rd {w : World} {u : Value} {e : TypeId} : Rd (w.alloc (.cells #[u] e)) 1 (.slice (some ⟨w.heap.size, 0, none⟩) 1 1) 1 [u] := by
  refine ⟨_, 1, rfl, by omega, by omega, rfl, fun h => (by cases h), fun _ ad h => ?_⟩
  cases h
  refine ⟨rfl, by simp, fun j u' hu => ?_⟩
  rcases j with _ | j
  · simp at hu; subst hu; simp [go_sem]
  · simp at hu
/-- make([]T, n), whole; one cell a T. -/
theorem wpList_make (hgd : Region.wanted o (yielded ops a.tmps) = true) {l c : Operand} {t e B by_ : Nat} (ho : o.op = .makeSlice t l c)
    {z : Value} {n : Nat} (hl : a.eval l = .int .i64 (n : Int)) (hc : a.eval c = .int .i64 (n : Int)) (ht : P.underlying t = some (.slice e))
    (hi : (P.info? e).map (fun i => (i.zero, i.size, i.bytes)) = some (some z, 1, by_)) (hzs : z.cells = #[z]) (hbytes : by_ * n ≤ 281474976710656) (h63 : n ≤ 9223372036854775807)
    {w0 : World} (hb : Below B w0 w) (hB : B ≤ w0.heap.size)
    (h : ∀ v' w', w'.ownsRow B e 1 v' n (List.replicate n z) → Below B w0 w' → wpList P ops Q rest (a.put o.dst v') w') : wpList P ops Q (o :: rest) a w := by
  obtain ⟨i, hi1, hi2, hi3, hi4⟩ := info3 hi
  obtain ⟨w', hrun, g1, g2⟩ := run_make_full (P := P) w B t e i z 1 ht hi1 hi2 hi3 .i64 .i64 n (by rw [hi4]; exact hbytes) (by unfold maxLen; omega) (Nat.le_trans hB hb.size)
  refine wpList_wanted hgd fun K hK => ?_
  unfold Oper.wp
  simp [execOp, ho, hl, hc, hrun]
  refine hK _ _ (h _ w' ?_ (hb.grown g2 (Nat.le_trans hB hb.size) (fun _ hk => by cases hk)))
  rw [hzs, Nat.mul_one, toList_madeCells_one] at g1
  exact g1
theorem lit0_own {w : World} {e B sz : Nat} (hB : B ≤ w.heap.size) : (w.alloc (.cells #[] e)).ownsRow B e sz (.slice (some ⟨w.heap.size, 0, none⟩) 0 0) 0 [] :=
  World.ownsRow_made w #[] 0 hB (by simp [maxLen]) (by simp)
theorem one_u64s (l : List UInt64) : ∀ u ∈ l.map u64, u.oneCell' = true := by
  intro u hu; obtain ⟨x, _, rfl⟩ := List.mem_map.1 hu; rfl
theorem OwnW.of {w : World} {B E n : Nat} {v : Value} {xs : List Value} {l : List UInt64} (h : w.ownsRow B E 1 v n xs) (hx : xs = l.map u64) : OwnW w B E v l := by
  subst hx
  have hn : n = l.length := by have := h.1; simp at this; omega
  subst hn; exact h
theorem OwnI.of {w : World} {B E n : Nat} {v : Value} {xs : List Value} {l : List Int} (h : w.ownsRow B E 1 v n xs) (hx : xs = l.map i64) : OwnI w B E v l := by
  subst hx
  have hn : n = l.length := by have := h.1; simp at this; omega
  subst hn; exact h
theorem OwnW.nil (w : World) (B E : Nat) : OwnW w B E (.slice none 0 0) [] := World.ownsRow_nil w B E 1
theorem OwnI.nil (w : World) (B E : Nat) : OwnI w B E (.slice none 0 0) [] := World.ownsRow_nil w B E 1
theorem own_cutFrom {v : Value} {n B e t : Nat} {xs : List Value} (h : w.ownsRow B e 1 v n xs) (ht : P.underlying t = some (.slice e)) (hs : (P.info? e).map (·.size) = some 1) {lo : Int} (h0 : 0 ≤ lo) (h1 : lo ≤ n) :
    ∃ dv, (∀ W, (Instr.sliceAt t v (some (.int .i64 lo)) none none).run P W = .ok dv W) ∧ CutOf v lo.toNat (n - lo.toNat) dv := by
  obtain ⟨k, rfl⟩ := Int.eq_ofNat_of_zero_le h0
  obtain ⟨dv, _, r1, _, _, A, c, r3, r4⟩ := Rd.cutN (Rd.of_own h) ht hs (lo := k) (hi := n) (by omega) (Nat.le_refl _)
  refine ⟨dv, r1 rfl, A, n, c, r3, by simp; omega, ?_, by simpa using r4⟩
  rcases h.2 with ⟨h, h'⟩ | ⟨g, cap, cur, h, _, _, hc, _⟩
  · omega
  · rw [r3] at h; simp at h; omega
theorem own_below {w w' : World} {B e sz n : Nat} {v : Value} {xs : List Value} (h : w.ownsRow B e sz v n xs) (hb : Below w.heap.size w w') : w'.ownsRow B e sz v n xs := by
  refine ⟨h.1, h.2.imp id ?_⟩
  rintro ⟨g, cap, cur, h1, h2, h3, h4⟩
  exact ⟨g, cap, cur, h1, h2, (hb.block g (Array.getElem?_eq_some_iff.1 h3).1).trans h3, h4⟩
theorem own_mono {w : World} {B B' e sz n : Nat} {v : Value} {xs : List Value} (h : w.ownsRow B e sz v n xs) (hB : B' ≤ B) : w.ownsRow B' e sz v n xs := by
  refine ⟨h.1, h.2.imp id ?_⟩
  rintro ⟨g, cap, cur, h1, h2, h4⟩
  exact ⟨g, cap, cur, h1, by omega, h4⟩
theorem OwnW.below {w w' : World} {B E : Nat} {v : Value} {l : List UInt64} (h : OwnW w B E v l) (hb : Below w.heap.size w w') : OwnW w' B E v l := own_below h hb
theorem OwnI.below {w w' : World} {B E : Nat} {v : Value} {l : List Int} (h : OwnI w B E v l) (hb : Below w.heap.size w w') : OwnI w' B E v l := own_below h hb
theorem OwnW.kept {w w' : World} {B E : Nat} {v : Value} {l : List UInt64} {row : Option Nat} (h : OwnW w B E v l) (hg : w.grownBy w' row) (hne : v.ownBlock = none ∨ v.ownBlock ≠ row) : OwnW w' B E v l := World.ownsRow.kept h hg hne
/-- make([]T, n), n an int that is not below 0. -/
theorem wpList_makeI (hgd : Region.wanted o (yielded ops a.tmps) = true) {l c : Operand} {t e B by_ : Nat} (ho : o.op = .makeSlice t l c)
    {z : Value} {n : Int} (hl : a.eval l = .int .i64 n) (hc : a.eval c = .int .i64 n) (ht : P.underlying t = some (.slice e))
    (hi : (P.info? e).map (fun i => (i.zero, i.size, i.bytes)) = some (some z, 1, by_)) (hzs : z.cells = #[z]) (h0 : 0 ≤ n) (hby : by_ ≤ 64) (hn : n ≤ 1048576)
    {w0 : World} (hb : Below B w0 w) (hB : B ≤ w0.heap.size)
    (h : ∀ v' w', w'.ownsRow B e 1 v' n.toNat (List.replicate n.toNat z) → Below B w0 w' → Below w.heap.size w w' → wpList P ops Q rest (a.put o.dst v') w') : wpList P ops Q (o :: rest) a w := by
  obtain ⟨m, rfl⟩ := Int.eq_ofNat_of_zero_le h0
  obtain ⟨i, hi1, hi2, hi3, hi4⟩ := info3 hi
  have hbb : by_ * m ≤ 64 * 1048576 := Nat.mul_le_mul hby (by omega)
  obtain ⟨w', hrun, g1, g2⟩ := run_make_full (P := P) w B t e i z 1 ht hi1 hi2 hi3 .i64 .i64 m (by rw [hi4]; omega) (by unfold maxLen; omega) (Nat.le_trans hB hb.size)
  refine wpList_wanted hgd fun K hK => ?_
  unfold Oper.wp
  simp [execOp, ho, hl, hc, hrun]
  refine hK _ _ (h _ w' ?_ (hb.grown g2 (Nat.le_trans hB hb.size) (fun _ hk => by cases hk)) ((Below.refl _ _).grown g2 (Nat.le_refl _) (fun _ hk => by cases hk)))
  rw [hzs, Nat.mul_one, toList_madeCells_one] at g1
  simpa using g1
/-- a slice with elements, written out. -/
theorem Rd.form {w : World} {sz n : Nat} {v : Value} {xs : List Value} (h : Rd w sz v n xs) (hn : 0 < n) : ∃ b o c, v = .slice (some ⟨b, o, none⟩) n c ∧ b < w.heap.size ∧ n ≤ c ∧ ∀ j u, xs[j]? = some u → w.cell? ⟨b, o + j, none⟩ = some u := by
  obtain ⟨A, c, rfl, h1, h2, h3, h4, h5⟩ := h
  cases A with
  | none => have := h4 rfl; omega
  | some ad =>
    obtain ⟨p1, p2, p3⟩ := h5 hn ad rfl
    obtain ⟨b, o, s⟩ := ad
    simp at p1; subst p1
    exact ⟨b, o, c, rfl, p2, h1, p3⟩
/-- forget how the world came about. -/
theorem wp_gen {c : Code} {w : World} (Φ : World → Prop) (h0 : Φ w) (h : ∀ w1, Φ w1 → c.wp P Q a w1) : c.wp P Q a w := h w h0
theorem calls_gen {f : FuncId} {args : Array Value} {R : Ending → World → Prop} {w : World} (Φ : World → Prop) (h0 : Φ w) (h : ∀ w1, Φ w1 → Calls P f args w1 R) : Calls P f args w R := h w h0
/-- v[k] = u on a row of the call's own. -/
theorem own_at {v : Value} {n B e t : Nat} {xs : List Value} (h : w.ownsRow B e 1 v n xs) {e' : Nat} (ht : P.underlying t = some (.slice e')) (hi : (P.info? e').map (·.size) = some 1) {k : Int} (h0 : 0 ≤ k) (hk : k < n) :
    ∃ ad u0, (∀ W, (Instr.indexAt t v (.int .i64 k)).run P W = .ok (.pointer (some ad)) W) ∧ w.cell? ad = some u0 ∧ w.frozen? ad = false ∧ B ≤ ad.block ∧ Hid (xs[k.toNat]? = some u0) ∧ ∀ u, (w.setCell ad u).ownsRow B e 1 v n (xs.set k.toNat u) := by
  obtain ⟨j, rfl⟩ := Int.eq_ofNat_of_zero_le h0
  have hj : j < n := by omega
  obtain ⟨g, cap, cur, rfl, hB, hg, hnc, hcm, hcs, htake⟩ := own_form h (by omega)
  have hxl : j < xs.length := by have := h.1; omega
  have hrd := Rd.of_own h
  have hix := fun W => Rd.ixN hrd ht hi hj W
  have hcell := Rd.cell hrd (j := j) (u := xs[j]) (List.getElem?_eq_getElem hxl)
  have e1 : cellAt (.slice (some ⟨g, 0, none⟩) n cap) (j * 1) = ⟨g, j, none⟩ := by simp [cellAt]
  have e2 : cellAt (.slice (some ⟨g, 0, none⟩) n cap) j = ⟨g, j, none⟩ := by simp [cellAt]
  rw [e2] at hcell
  refine ⟨⟨g, j, none⟩, xs[j], fun W => by rw [← e1]; exact hix W, hcell, h.frozenAt j, hB, ?_, fun u => (h.stored j u).1⟩
  show xs[j]? = _
  exact List.getElem?_eq_getElem hxl
theorem OwnW.set {B E k : Nat} {v : Value} {l : List UInt64} {x : UInt64} (h : w.ownsRow B E 1 v l.length ((l.map u64).set k (.int .u64 x.toNat))) : OwnW w B E v (l.set k x) :=
  OwnW.of (n := l.length) h (by rw [List.map_set]; rfl)
end
end Go.Proofs.Ytodbbacmdjcheaa
namespace Go.Proofs.Ytodbbacmdjcheaa
theorem one_u64 : (Try.prog.info? 64).map (·.size) = some 1 := by kernel_rfl
theorem info_u64 : (Try.prog.info? 64).map (fun i => (i.zero, i.size, i.bytes)) = some (some (.int .u64 0), 1, 8) := by kernel_rfl
end Go.Proofs.Ytodbbacmdjcheaa
namespace Go.Proofs.Ytodbbacmdjcheaa
open Go.RowKit L02
def Quiet (w w' : World) : Prop := ∃ n, w' = w.drewN n
theorem Quiet.below {w w' : World} (h : Quiet w w') : Below w.heap.size w w' := by obtain ⟨n, rfl⟩ := h; exact below_drewN (Below.refl _ _) n
def RetWE (w : World) (l : List UInt64) (err : Int) (e : Ending) (w' : World) : Prop := ∃ v, e = .returned (.tuple #[v, .int .i64 err]) ∧ OwnW w' w.heap.size 64 v l ∧ Below w.heap.size w w'
theorem same_step {a b : List UInt64} {k : Nat} {x y : UInt64} (h : a.take k = b.take k) (hx : a[k]? = some x) (hy : b[k]? = some y) (e : ((x.toNat : Int) != y.toNat) = false) : a.take (k+1) = b.take (k+1) := by
  have : x = y := by simp at e; exact UInt64.toNat_inj.1 (by omega)
  rw [List.take_add_one, List.take_add_one, h, hx, hy, this]
theorem same_no {a b : List UInt64} {k : Nat} {x y : UInt64} (hx : a[k]? = some x) (hy : b[k]? = some y) (e : ((x.toNat : Int) != y.toNat) = true) : same a b = false := by
  simp [same]; rintro rfl; rw [hx] at hy; cases hy; simp at e
theorem same_len {a b : List UInt64} (h : a.length ≠ b.length) : same a b = false := by
  simp [same]; rintro rfl; exact h rfl
theorem same_end {a b : List UInt64} {k : Nat} (h : a.take k = b.take k) (ha : a.length ≤ k) (hb : b.length ≤ k) : same a b = true := by
  rw [List.take_of_length_le ha, List.take_of_length_le hb] at h; simp [same, h]
set_option maxHeartbeats 400000 in
theorem Same_any (va vb : Value) (la lb : List UInt64) (w : World) (ha : Words w va la) (hb : Words w vb lb) :
    Calls Try.prog 14 #[va, vb] w fun e w' => e = .returned (.bool (same la lb)) ∧ Quiet w w' := by
  have la1 := Rd.len ha Try.underlying25; have lb1 := Rd.len hb Try.underlying25
  have la2 := Rd.len_le ha; have lb2 := Rd.len_le hb
  have HA := Lib.hid ha; have HB := Lib.hid hb; clear ha hb
  obtain ⟨na, hna⟩ : ∃ na, na = la.length := ⟨_, rfl⟩
  obtain ⟨nb, hnb⟩ : ∃ nb, nb = lb.length := ⟨_, rfl⟩
  rw [← hna] at la1 la2; rw [← hnb] at lb1 lb2
  have Hna := Lib.hid hna; have Hnb := Lib.hid hnb; clear hna hnb
  by_cases hl : na = nb
  · subst hl
    go_enter Try.func14, Try.ntmps14
    go_wp2
    go_loopw [5] (fun i wr => ∃ k n : Nat, k ≤ na ∧ i = .int .i64 k ∧ wr = w.drewN n ∧ la.take k = lb.take k) (fun i _ => na - (intOf i).toNat)
    case atStart => exact ⟨0, 0, Nat.zero_le _, rfl, rfl, by simp⟩
    case round =>
      obtain ⟨k, n, hk, rfl, rfl, heq⟩ := hrel
      have HE := Lib.hid heq; clear heq
      by_cases hlt : k < na
      · obtain ⟨ad, x, ia, ca', hx⟩ := HA.out.at_ Try.underlying25 one_u64 (k := k) (by have := Hna.out; omega)
        obtain ⟨bd, y, ib, cb', hy⟩ := HB.out.at_ Try.underlying25 one_u64 (k := k) (by have := Hnb.out; omega)
        go_wp2
        go_quiet (fail)
        go_wp2
        · go_ret
          exact ⟨ret_bool (same_no hx.out hy.out ‹_›).symm, _, World.drewN_drewN _ _ _⟩
        · go_roundw
          case rel => exact ⟨k + 1, _, by omega, by go_num, rfl, same_step HE.out hx.out hy.out ‹_›⟩
          case measure => simp [intOf]; omega
      · go_wp2
        go_ret
        exact ⟨ret_bool (same_end HE.out (by have := Hna.out; omega) (by have := Hnb.out; omega)).symm, _, rfl⟩
  · have hl' : ((na : Int) != nb) = true := by simp; omega
    go_enter Try.func14, Try.ntmps14
    go_wp2
    go_ret
    exact ⟨ret_bool (same_len (by have := Hna.out; have := Hnb.out; omega)).symm, 0, rfl⟩
theorem SizeR_any (n : Int) (b : Bool) (hb : b = decide (SizeOk n)) (w : World) : Calls Try.prog 37 #[.int .i64 n] w fun e w' => e = .returned (.bool b) ∧ w = w' := by
  have HB := Lib.hid hb; clear hb
  go_enter Try.func37, Try.ntmps37
  go_wp2
  all_goals
    go_ret
    exact ⟨ret_bool (by rw [HB.out]; exact bool_dec (by simp [SizeOk]; try omega)), rfl⟩
theorem Size_any (n : Int) (b : Bool) (hb : b = decide (SizeOk n)) (w : World) : Calls Try.prog 53 #[.int .i64 n] w fun e w' => e = .returned (.bool b) ∧ w = w' := by
  have HB := Lib.hid hb; clear hb
  go_enter Try.func53, Try.ntmps53
  go_wp2
  all_goals
    go_ret
    exact ⟨ret_bool (by rw [HB.out]; exact bool_dec (by simp [SizeOk]; try omega)), rfl⟩
theorem Check_any (v : Value) (l : List UInt64) (w : World) (h : Words w v l) : Calls Try.prog 63 #[v] w fun e w' => e = .returned (.int .i64 (chk l)) ∧ w = w' := by
  have l1 := Rd.len h Try.underlying25
  have H := Lib.hid h; clear h
  by_cases hs : SizeOk l.length
  · rw [chk_ok hs]
    have HS := Lib.hid hs; clear hs
    go_enter Try.func63, Try.ntmps63
    go_wp2_with (go_at_call 53; refine (Size_any _ true (decide_eq_true HS.out).symm _).mono ?_; rintro e w' ⟨rfl, rfl⟩)
    go_ret
    exact ⟨rfl, rfl⟩
  · rw [chk_no hs]
    have HS := Lib.hid hs; clear hs
    go_enter Try.func63, Try.ntmps63
    go_wp2_with (go_at_call 53; refine (Size_any _ false (decide_eq_false HS.out).symm _).mono ?_; rintro e w' ⟨rfl, rfl⟩)
    go_ret
    exact ⟨rfl, rfl⟩
theorem CheckR_any (v : Value) (l : List UInt64) (w : World) (h : Words w v l) : Calls Try.prog 64 #[v] w fun e w' => e = .returned (.int .i64 (chk l)) ∧ w = w' := by
  have l1 := Rd.len h Try.underlying25
  have H := Lib.hid h; clear h
  by_cases hs : SizeOk l.length
  · rw [chk_ok hs]
    have HS := Lib.hid hs; clear hs
    go_enter Try.func64, Try.ntmps64
    go_wp2_with (go_at_call 37; refine (SizeR_any _ true (decide_eq_true HS.out).symm _).mono ?_; rintro e w' ⟨rfl, rfl⟩)
    go_ret
    exact ⟨rfl, rfl⟩
  · rw [chk_no hs]
    have HS := Lib.hid hs; clear hs
    go_enter Try.func64, Try.ntmps64
    go_wp2_with (go_at_call 37; refine (SizeR_any _ false (decide_eq_false HS.out).symm _).mono ?_; rintro e w' ⟨rfl, rfl⟩)
    go_ret
    exact ⟨rfl, rfl⟩
end Go.Proofs.Ytodbbacmdjcheaa
namespace Go.Proofs.Ytodbbacmdjcheaa
open Go.RowKit
theorem Same_r (va vb : Value) (la lb : List UInt64) (r : Bool) (hr : r = L02.same la lb) (w : World) (ha : Words w va la) (hb : Words w vb lb) :
    Calls Try.prog 14 #[va, vb] w fun e w' => e = .returned (.bool r) ∧ Below w.heap.size w w' := by
  subst hr
  exact (Same_any va vb la lb w ha hb).mono fun _ _ ⟨h1, h2⟩ => ⟨h1, h2.below⟩
/-- A world that may come behind w: all that w has is there, unchanged. -/
structure Fut (w : World) where
  W : World
  h : Below w.heap.size w W
instance (w : World) : Nonempty (Fut w) := ⟨⟨w, Below.refl _ _⟩⟩
section
variable {P : Program} {w : World}
theorem Bx.at_ {n : Nat} {t : TypeId} {cs : Array Value} (h : w.heap.size = n) : Bx (w.alloc (.cells cs t)) n t cs := by subst h; exact Bx.new w t cs
theorem Fut.call {f : FuncId} {args : Array Value} {v : Value} {x : Fut w} (h : Calls P f args x.W fun e w' => e = .returned v ∧ Below x.W.heap.size x.W w') :
    Calls P f args x.W fun e w'' => e = .returned v ∧ ∃ y : Fut w, w'' = y.W :=
  h.mono fun _ w' ⟨he, hb⟩ => ⟨he, ⟨w', x.h.trans (hb.mono x.h.size)⟩, rfl⟩
theorem Fut.same {f : FuncId} {args : Array Value} {v : Value} {x : Fut w} (h : Calls P f args x.W fun e w' => e = .returned v ∧ x.W = w') :
    Calls P f args x.W fun e w'' => e = .returned v ∧ ∃ y : Fut w, w'' = y.W :=
  h.mono fun _ w' ⟨he, hb⟩ => ⟨he, x, hb.symm⟩
theorem wp_region_calm {id : Nat} {Q : Exit → Act → World → Prop} {a : Act} {l : List Oper} (hm : P.follows .mixedOrders = true) (hB : Region.lexB .any l.toArray = true)
    (h : wpQuiet P l.toArray (fun w' => ∃ x : Fut w, w' = x.W) (fun a' => ∀ w', (∃ x : Fut w, w' = x.W) → Q .normal a' w') l a) : (Code.region id l.toArray true).wp P Q a w :=
  wp_region_quiet (C := fun w' => ∃ x : Fut w, w' = x.W) hm hB ⟨⟨_, below_drewN (Below.refl _ _) 1⟩, rfl⟩ (by simpa using h)
end
end Go.Proofs.Ytodbbacmdjcheaa
namespace Go.Proofs.Ytodbbacmdjcheaa
open Go.RowKit
/-- cells of an array, some of them set -/
def putL (cs : Array Value) : Nat → List Value → Array Value
  | _, [] => cs
  | o, v :: r => putL (cs.setIfInBounds o v) (o + 1) r
theorem putL_size : ∀ (l : List Value) (o : Nat) (cs : Array Value), (putL cs o l).size = cs.size
  | [], _, _ => rfl
  | v :: r, o, cs => by rw [putL, putL_size r]; simp
theorem putL_get : ∀ (l : List Value) (o : Nat) (cs : Array Value) (i : Nat), o + l.length ≤ cs.size → (putL cs o l)[i]? = if o ≤ i ∧ i < o + l.length then l[i - o]? else cs[i]?
  | [], o, cs, i, _ => by simp [putL]; omega
  | v :: r, o, cs, i, h => by
    have h' : o + 1 + r.length ≤ cs.size := by simp at h; omega
    rw [putL, putL_get r (o + 1) _ i (by simpa using h')]
    by_cases h1 : i = o
    · subst h1
      rw [if_neg (by omega), if_pos (by simp)]
      rw [List.length_cons] at h
      rw [Array.getElem?_setIfInBounds, if_pos rfl, if_pos (by omega)]
      simp
    · by_cases h2 : o + 1 ≤ i ∧ i < o + 1 + r.length
      · rw [if_pos h2, if_pos (by simp; omega)]
        rw [show i - o = (i - (o + 1)) + 1 by omega, List.getElem?_cons_succ]
      · rw [if_neg h2, if_neg (by rw [List.length_cons]; omega)]
        rw [Array.getElem?_setIfInBounds_ne (by omega)]
section
variable {P : Program} {ops : Array Oper} {rest : List Oper} {o : Oper} {a : Act} {Q : Exit → Act → World → Prop} {w : World}
end
end Go.Proofs.Ytodbbacmdjcheaa
