/- Contracts of the functions that the law 'FieldsCalls' reaches, part 4. No condition. -/
import Derived.Test.YtbfmdbeeiicabaaGreatMFCsc
set_option linter.unusedVariables false
set_option linter.unusedSimpArgs false
namespace Go.Proofs.YtbfmdbeeiicabaaGreat.L19
open L02 L07 L13 L14 L15 L18
theorem getD_set_ne {l : List UInt64} {p k : Nat} {v : UInt64} (h : p ≠ k) : (l.set p v).getD k 0 = l.getD k 0 := by
  rw [List.getD_eq_getElem?_getD, List.getD_eq_getElem?_getD, List.getElem?_set_ne h]
theorem getD_set_self {l : List UInt64} {p : Nat} {v : UInt64} (h : p < l.length) : (l.set p v).getD p 0 = v := by
  rw [List.getD_eq_getElem?_getD, List.getElem?_set_self h]; rfl
/-- words below an address do not matter for the blocks from there on -/
theorem stOk_set {l : List UInt64} {p k : Nat} {v : UInt64} (h : p ≠ k) : StOk (l.set p v) k ↔ StOk l k := by
  unfold StOk; rw [getD_set_ne h, List.length_set]
theorem szN_set {l : List UInt64} {p k : Nat} {v : UInt64} (h : p ≠ k) : szN (l.set p v) k = szN l k := by
  unfold szN; rw [getD_set_ne h]
theorem stand_set1 {l : List UInt64} {p k : Nat} {v : UInt64} (h : p ≠ k) : stand (l.set p v) k = { stand l k with next := (l.set p v).getD (k + 1) 0 } := by
  unfold stand; rw [getD_set_ne h]
/-- a chain stays a chain where no first word is changed -/
theorem chain_set {l : List UInt64} {p k : Nat} {v : UInt64} {L : List Hb} (h : Chain l k L) (hp : ∀ b ∈ L, b.at_ ≠ (p : Int)) : Chain (l.set p v) k (L.map fun b => { b with next := (l.set p v).getD (b.at_.toNat + 1) 0 }) := by
  induction h with
  | nil =>
    have h0 : Chain (l.set p v) (l.set p v).length [] := .nil
    rw [List.length_set] at h0
    exact h0
  | cons hk hs hc ih =>
    rename_i k L
    have hpk : p ≠ k := fun e => hp _ List.mem_cons_self (by rw [stand_at, e])
    have h1 := ih fun b hb => hp b (List.mem_cons_of_mem _ hb)
    rw [List.map_cons, stand_at, Int.toNat_natCast]
    show Chain (l.set p v) k ({ stand l k with next := (l.set p v).getD (k + 1) 0 } :: _)
    rw [show ({ stand l k with next := (l.set p v).getD (k + 1) 0 } : Hb) = stand (l.set p v) k from (stand_set1 hpk).symm]
    refine .cons (by rw [List.length_set]; exact hk) ((stOk_set hpk).2 hs) ?_
    rw [szN_set hpk]; exact h1
/-- the parts in front of the heap -/
theorem c0_set {l : List UInt64} {p : Nat} {v : UInt64} (h : 8 ≤ p) : c0 (l.set p v) = c0 l := by
  unfold c0; rw [List.take_set_of_le h]
theorem c1_set {l : List UInt64} {p : Nat} {v : UInt64} (h : 16 ≤ p) : c1 (l.set p v) = c1 l := by
  unfold c1; rw [List.drop_set, if_neg (by omega), List.take_set_of_le (by omega)]
theorem rErr_set {l : List UInt64} {p : Nat} {v : UInt64} (h : 16 ≤ p) : rErr (l.set p v) = rErr l ∧ sT (l.set p v) = sT l ∧ sW (l.set p v) = sW l := by
  have e0 : is0 (l.set p v) = is0 l := by unfold is0; rw [c0_set (by omega), List.length_set]
  have e1 : is1 (l.set p v) = is1 l := by unfold is1; rw [c1_set h, List.length_set]
  have e2 : rErr (l.set p v) = rErr l := by unfold rErr; rw [e0, e1, List.length_set]
  refine ⟨e2, ?_, ?_⟩
  · unfold sT one; rw [e2, e0, c0_set (by omega), c1_set h]
  · unfold sW; rw [e2, List.length_set]
theorem zr_set {l : List UInt64} {p a : Nat} {v : UInt64} (h : p < a ∨ a + 8 ≤ p) : Zr (l.set p v) a ↔ Zr l a := by
  unfold Zr
  constructor <;> intro hh i hi <;> have := hh i hi <;> rw [getD_set_ne (by omega)] at * <;> exact this
theorem ta_set {l : List UInt64} {p i : Nat} {v : UInt64} (h : p < 96 ∨ 112 ≤ p) (hi : i < 8) : ta (l.set p v) i = ta l i ∧ tb (l.set p v) i = tb l i := by
  unfold ta tb; exact ⟨getD_set_ne (by omega), getD_set_ne (by omega)⟩
theorem tabErr_set {l : List UInt64} {p : Nat} {v : UInt64} (h : p < 96 ∨ 112 ≤ p) (n : Int) : tabErr (l.set p v) n = tabErr l n ∧ tabT (l.set p v) n = tabT l n := by
  have e : ∀ k, TysOk (l.set p v) k ↔ TysOk l k := fun k => by
    unfold TysOk
    constructor <;> intro hh i hi <;> have := hh i hi <;> unfold TyOk at * <;> rw [(ta_set h hi).1, (ta_set h hi).2] at * <;> exact this
  have e2 : tabErr (l.set p v) n = tabErr l n := by
    unfold tabErr; rw [List.length_set]; simp only [e]
  refine ⟨e2, ?_⟩
  unfold tabT
  rw [e2]
  by_cases h0 : tabErr l n = 0
  · rw [if_pos h0, if_pos h0]
    have hn : n.toNat ≤ 8 := by
      unfold tabErr at h0
      split at h0
      · split at h0
        · omega
        · omega
      · omega
    unfold tysTo
    refine List.map_congr_left fun i hi => ?_
    have := List.mem_range.1 hi
    rw [(ta_set h (by omega)).1, (ta_set h (by omega)).2]
  · rw [if_neg h0, if_neg h0]
theorem open_set {l : List UInt64} {p : Nat} {v : UInt64} (h : p < 112 ∨ 128 ≤ p) : openErr (l.set p v) = openErr l ∧ slots (l.set p v) = slots l := by
  have e : ws (l.set p v) = ws l := by
    unfold ws
    rw [List.drop_set]
    split
    · rfl
    · rw [List.take_set_of_le (by omega)]
  refine ⟨?_, by unfold slots; rw [e]⟩
  have e2 : AllR (l.set p v) ↔ AllR l := by unfold AllR; rw [e]
  unfold openErr; rw [List.length_set]; simp only [e2]
/-- the words of fields -/
theorem fw_set {l : List UInt64} {p i : Nat} {v : UInt64} {b : Hb} (h : p ≠ b.at_.toNat + 2 + i) : fw (l.set p v) b i = fw l b i := getD_set_ne h
/-- where the blocks of a chain lie -/
theorem chain_apart {l : List UInt64} {k : Nat} {L : List Hb} (h : Chain l k L) : (∀ b ∈ L, (k : Int) ≤ b.at_) ∧ L.Pairwise fun a b => a.at_ + a.size ≤ b.at_ := by
  induction h with
  | nil => exact ⟨fun b hb => (by cases hb), .nil⟩
  | cons hk hs hc ih =>
    rename_i k L
    have hz := szN_ge hs
    have hst := stand_size hs
    refine ⟨fun b hb => ?_, List.pairwise_cons.2 ⟨fun b hb => ?_, ih.2⟩⟩
    · rcases List.mem_cons.1 hb with rfl | hb
      · exact Int.le_refl _
      · have := ih.1 b hb; omega
    · have := ih.1 b hb
      rw [stand_at, hst]; omega
theorem apart_of {L : List Hb} (h : L.Pairwise fun a b => a.at_ + a.size ≤ b.at_) {a b : Hb} (ha : a ∈ L) (hb : b ∈ L) : a = b ∨ a.at_ + a.size ≤ b.at_ ∨ b.at_ + b.size ≤ a.at_ := by
  induction h with
  | nil => cases ha
  | cons h1 _ ih =>
    rcases List.mem_cons.1 ha with e1 | ha
    · rcases List.mem_cons.1 hb with e2 | hb
      · exact .inl (e1.trans e2.symm)
      · rw [e1]; exact .inr (.inl (h1 b hb))
    · rcases List.mem_cons.1 hb with e2 | hb
      · rw [e2]; exact .inr (.inr (h1 a ha))
      · exact ih ha hb
/-- a block of a heap -/
theorem all_mem {l : List UInt64} (h : allErr l = 0) {b : Hb} (hb : b ∈ allL l) : ∃ a : Nat, 128 ≤ a ∧ a < l.length ∧ StOk l a ∧ b = stand l a ∧ a % 2 = 0 := by
  obtain ⟨a, h1, h2, h3, h4, h5⟩ := chain_mem (chain_iff.1 (parsed_ok.1 (allErr_ok h).2).1) b hb
  exact ⟨a, h1, h2, h3, h4, h5 rfl⟩
theorem all_apart {l : List UInt64} (h : allErr l = 0) {a b : Hb} (ha : a ∈ allL l) (hb : b ∈ allL l) : a = b ∨ a.at_ + a.size ≤ b.at_ ∨ b.at_ + b.size ≤ a.at_ :=
  apart_of (chain_apart (chain_iff.1 (parsed_ok.1 (allErr_ok h).2).1)).2 ha hb
theorem objs_mem {L : List Hb} {b : Hb} : b ∈ objs L ↔ b ∈ L ∧ b.kind = 1 := by unfold objs; rw [List.mem_filter]; simp
end Go.Proofs.YtbfmdbeeiicabaaGreat.L19
namespace Go.Proofs.YtbfmdbeeiicabaaGreat.L19
open L02 L07 L13 L14 L15 L18
theorem objs_at {l : List UInt64} (h : allErr l = 0) {b : Hb} (hb : b ∈ O19 l) : ∃ a : Nat, 128 ≤ a ∧ b.at_ = a ∧ b.size = szN l a ∧ a + szN l a ≤ l.length ∧ StOk l a ∧ b = stand l a ∧ b.kind = 1 ∧ 2 ≤ szN l a ∧ a % 2 = 0 := by
  obtain ⟨hm, hk⟩ := objs_mem.1 hb
  obtain ⟨a, h1, h2, h3, h4, h5⟩ := all_mem h hm
  have hz := szN_ge h3
  exact ⟨a, h1, by rw [h4]; rfl, by rw [h4]; exact stand_size h3, hz.2.2.2.1, h3, h4, hk, hz.1, h5⟩
/-- a word of an object behind its first two -/
theorem obj_set {l : List UInt64} (h : allErr l = 0) {b : Hb} (hb : b ∈ O19 l) {p : Nat} {v : UInt64} (h1 : b.at_ + 2 ≤ p) (h2 : (p : Int) < b.at_ + b.size) :
    allErr (l.set p v) = 0 ∧ allL (l.set p v) = allL l := by
  obtain ⟨hs, hp⟩ := allErr_ok h
  obtain ⟨hfr, hadj⟩ := parsed_ok.1 hp
  obtain ⟨hbm, hbk⟩ := objs_mem.1 hb
  have far : ∀ c ∈ allL l, c.at_ ≠ (p : Int) ∧ p ≠ c.at_.toNat + 1 := fun c hc => by
    obtain ⟨a, _, _, h3, h4, _⟩ := all_mem h hc
    have hz := szN_ge h3
    have hsz : c.size = szN l a := by rw [h4]; exact stand_size h3
    have hat : c.at_ = a := by rw [h4]; rfl
    rcases all_apart h hbm hc with rfl | h5 | h5 <;> omega
  have hc := chain_set (v := v) (chain_iff.1 hfr) (fun c hc => (far c hc).1)
  have hid : (allL l).map (fun c => { c with next := (l.set p v).getD (c.at_.toNat + 1) 0 }) = allL l := by
    refine List.map_congr_left (g := id) (fun c hc => ?_) |>.trans (List.map_id _)
    obtain ⟨a, _, _, h3, h4, _⟩ := all_mem h hc
    have hat : c.at_ = a := by rw [h4]; rfl
    show { c with next := (l.set p v).getD (c.at_.toNat + 1) 0 } = c
    rw [getD_set_ne (far c hc).2, hat, Int.toNat_natCast]
    rw [h4]; rfl
  rw [hid] at hc
  have hp2 : parsed (l.set p v) = some (allL l) := parsed_ok.2 ⟨from_chain hc, hadj⟩
  have he : allErr (l.set p v) = 0 := by unfold allErr; rw [List.length_set, if_pos hs, hp2]; rfl
  exact ⟨he, by rw [allL, if_pos he, hp2]; rfl⟩
/-- a right image, by its parts -/
structure Rt (l : List UInt64) : Prop where
  sz : SizeOk l.length
  tw : rErr l = 0
  z16 : Zr l 16
  z24 : Zr l 24
  ty : tabErr l (sT l) = 0
  sl : openErr l = 0
  al : allErr l = 0
  good : ∀ i, 7 ≤ i → i < 12 → AllGood l (T19 l) (O19 l) i
  slots : SlotsGood (slots l) (O19 l)
theorem Rt.of {l : List UInt64} (h : chk19 l = 0) : Rt l := by
  obtain ⟨hs, hw⟩ := chk19_ok h
  obtain ⟨h6, hg, hsl⟩ := why_zero.1 hw
  obtain ⟨a, b, c, d, e, f⟩ := why6_zero.1 h6
  exact ⟨hs, a, b, c, d, e, f, hg, hsl⟩
theorem Rt.why {l : List UInt64} (h : Rt l) : why l = 0 := why_zero.2 ⟨why6_zero.2 ⟨h.tw, h.z16, h.z24, h.ty, h.sl, h.al⟩, h.good, h.slots⟩
theorem Rt.chk {l : List UInt64} (h : Rt l) : chk19 l = 0 := by rw [chk19, if_pos h.sz, if_pos h.why]
/-- what a field must hold -/
def FdR (O : List Hb) (k : UInt8) (v : UInt64) : Prop := (k.toNat = 2 → L20.FloatOk v) ∧ (k.toNat = 3 → v = 0 ∨ IsObj O v.toNat)
/-- the parts of an image with another field -/
structure FS (l : List UInt64) (b : Hb) (i p : Nat) (v : UInt64) : Prop where
  tw : rErr (l.set p v) = 0
  sT : sT (l.set p v) = sT l
  z16 : Zr (l.set p v) 16
  z24 : Zr (l.set p v) 24
  ty : tabErr (l.set p v) (L07.sT l) = 0
  tyT : T19 (l.set p v) = T19 l
  sl : openErr (l.set p v) = 0
  slL : slots (l.set p v) = slots l
  al : allErr (l.set p v) = 0
  alL : allL (l.set p v) = allL l
  fwb : fw (l.set p v) b i = v
  fwo : ∀ c ∈ O19 l, ∀ j, j ≤ (kindsB (T19 l) c).length → ((kindsB (T19 l) c).length % 2 = 0 → j < (kindsB (T19 l) c).length) → (c ≠ b ∨ j ≠ i) → fw (l.set p v) c j = fw l c j
theorem Rt.fs {l : List UInt64} (h : Rt l) {b : Hb} (hb : b ∈ O19 l) {i p : Nat} (v : UInt64) (hi : i < (kindsB (T19 l) b).length) (hp : p = b.at_.toNat + 2 + i) : FS l b i p v := by
  obtain ⟨a, h1, h2, h3, h4, h5, h6, h7, h8, _⟩ := objs_at h.al hb
  have hsz := (h.good 8 (by omega) (by omega) b hb).2
  have hpb : b.at_ + 2 ≤ p ∧ (p : Int) < b.at_ + b.size := by omega
  have ho := obj_set (v := v) h.al hb hpb.1 hpb.2
  have a1 := rErr_set (l := l) (v := v) (p := p) (by omega)
  have a4 := tabErr_set (l := l) (v := v) (p := p) (by omega)
  have a5 := open_set (l := l) (v := v) (p := p) (by omega)
  refine ⟨a1.1.trans h.tw, a1.2.1, (zr_set (by omega)).2 h.z16, (zr_set (by omega)).2 h.z24, (a4 _).1.trans h.ty, by unfold T19; rw [a1.2.1, (a4 _).2], a5.1.trans h.sl, a5.2, ho.1, ho.2, ?_, ?_⟩
  · unfold fw; rw [← hp]; exact getD_set_self (by omega)
  · intro c hc j hj hj2 hne
    refine fw_set ?_
    obtain ⟨a', g1, g2, g3, g4, g5, g6, _, _, _⟩ := objs_at h.al hc
    have hsz' := (h.good 8 (by omega) (by omega) c hc).2
    rcases all_apart h.al (objs_mem.1 hb).1 (objs_mem.1 hc).1 with e | h5 | h5
    · subst e
      have := hne.resolve_left (fun h => h rfl)
      omega
    · omega
    · have : (kindsB (T19 l) c).length % 2 = 0 ∨ (kindsB (T19 l) c).length % 2 = 1 := by omega
      omega
/-- the reason of an image with another field -/
theorem FS.why {l : List UInt64} (h : Rt l) {b : Hb} (hb : b ∈ O19 l) {i p : Nat} {v : UInt64} {k : UInt8} (hi : i < (kindsB (T19 l) b).length) (hk : (kindsB (T19 l) b).getD i 0 = k) (f : FS l b i p v) :
    why (l.set p v) = if k.toNat = 2 ∧ ¬ L20.FloatOk v then 10 else if k.toNat = 3 ∧ ¬ (v = 0 ∨ IsObj (O19 l) v.toNat) then 11 else 0 := by
  have eO : O19 (l.set p v) = O19 l := by unfold O19; rw [f.alL]
  have h6 : why6 (l.set p v) = 0 := why6_zero.2 ⟨f.tw, f.z16, f.z24, by rw [f.sT]; exact f.ty, f.sl, f.al⟩
  have g7 : AllGood (l.set p v) (T19 l) (O19 l) 7 := h.good 7 (by omega) (by omega)
  have g8 : AllGood (l.set p v) (T19 l) (O19 l) 8 := h.good 8 (by omega) (by omega)
  have g9 : AllGood (l.set p v) (T19 l) (O19 l) 9 := fun c hc => by
    have := h.good 9 (by omega) (by omega) c hc
    show Padded _ _ _
    have this : Padded l (T19 l) c := this
    rcases this with h1 | h1
    · exact .inl h1
    · by_cases h2 : (kindsB (T19 l) c).length % 2 = 0
      · exact .inl h2
      · refine .inr ?_
        rw [f.fwo c hc _ (Nat.le_refl _) (fun e => absurd e h2)]
        · exact h1
        · by_cases e : c = b
          · subst e; right; omega
          · left; exact e
  have g10 : AllGood (l.set p v) (T19 l) (O19 l) 10 ↔ ¬ (k.toNat = 2 ∧ ¬ L20.FloatOk v) := by
    constructor
    · intro hh h2
      have := hh b hb i hi (by rw [hk]; exact h2.1)
      rw [f.fwb] at this; exact h2.2 this
    · intro hh c hc j hj hj2
      by_cases e : c = b ∧ j = i
      · obtain ⟨rfl, rfl⟩ := e
        rw [f.fwb]
        rw [hk] at hj2
        exact Decidable.not_not.1 fun h3 => hh ⟨hj2, h3⟩
      · rw [f.fwo c hc j (by omega) (fun _ => hj) (by
          by_cases e1 : c = b
          · right; exact fun e2 => e ⟨e1, e2⟩
          · left; exact e1)]
        exact h.good 10 (by omega) (by omega) c hc j hj hj2
  have g11 : AllGood (l.set p v) (T19 l) (O19 l) 11 ↔ ¬ (k.toNat = 3 ∧ ¬ (v = 0 ∨ IsObj (O19 l) v.toNat)) := by
    constructor
    · intro hh h2
      have := hh b hb i hi (by rw [hk]; exact h2.1)
      rw [f.fwb] at this; exact h2.2 this
    · intro hh c hc j hj hj2
      by_cases e : c = b ∧ j = i
      · obtain ⟨rfl, rfl⟩ := e
        rw [f.fwb]
        rw [hk] at hj2
        exact Decidable.not_not.1 fun h3 => hh ⟨hj2, h3⟩
      · rw [f.fwo c hc j (by omega) (fun _ => hj) (by
          by_cases e1 : c = b
          · right; exact fun e2 => e ⟨e1, e2⟩
          · left; exact e1)]
        exact h.good 11 (by omega) (by omega) c hc j hj hj2
  unfold L19.why
  rw [h6, eO, f.tyT, f.slL]
  simp only [whyO, if_pos g7, if_pos g8, if_pos g9]
  have hs := h.slots
  by_cases c2 : k.toNat = 2 ∧ ¬ L20.FloatOk v
  · rw [if_pos c2, if_neg (fun h => g10.1 h c2)]; rfl
  · rw [if_neg c2, if_pos (g10.2 c2)]
    by_cases c3 : k.toNat = 3 ∧ ¬ (v = 0 ∨ IsObj (O19 l) v.toNat)
    · rw [if_pos c3, if_neg (fun h => g11.1 h c3)]; rfl
    · rw [if_neg c3, if_pos (g11.2 c3)]
      simp [hs]
/-- an image with another right field is right -/
theorem FS.rt {l : List UInt64} (h : Rt l) {b : Hb} (hb : b ∈ O19 l) {i p : Nat} {v : UInt64} {k : UInt8} (hi : i < (kindsB (T19 l) b).length) (hk : (kindsB (T19 l) b).getD i 0 = k) (f : FS l b i p v) (hv : FdR (O19 l) k v) : Rt (l.set p v) := by
  refine Rt.of ?_
  rw [chk19, if_pos (by rw [List.length_set]; exact h.sz), if_pos]
  rw [f.why h hb hi hk, if_neg (fun e => e.2 (hv.1 e.1)), if_neg (fun e => e.2 (hv.2 e.1))]
end Go.Proofs.YtbfmdbeeiicabaaGreat.L19
namespace Go.Proofs.YtbfmdbeeiicabaaGreat
open Go.RowKit L01 L02 L05 L13 L14 L15 L18 L19
theorem float_iff19 (v : UInt64) : ((v.toNat : Int) / 4503599627370496 % 2048 = 2047 ∧ (v.toNat : Int) * 4096 % 18446744073709551616 ≠ 0 ∧ v.toNat ≠ 9221120237041090561) ↔ ¬ L20.FloatOk v := by
  have hl := v.toNat_lt
  unfold L20.FloatOk
  omega
set_option maxHeartbeats 1000000 in
theorem float19_any (x : UInt64) (b : Bool) (hb : b = decide (L20.FloatOk x)) (w : World) : Calls Tryz.prog 125 #[.int .u64 x.toNat] w fun e w' => e = .returned (.bool b) ∧ Below w.heap.size w w' := by
  have B : Below w.heap.size w w := Below.refl _ _
  have hxl := toNat_lt x
  have e1 := and_int (a := (x.toNat : Int) / 4503599627370496) 11 (by omega) (by omega) 2047 (by decide) (by omega)
  rw [show ((2 ^ 11 : Nat) : Int) = 2048 from rfl] at e1
  have hwr : IntKind.u64.wrap ((x.toNat : Int) * 4096) = (x.toNat : Int) * 4096 % 18446744073709551616 := rfl
  have HB := Lib.hid hb; clear hb
  go_enter Tryz.func125, Tryz.ntmps125
  go_wp2
  all_goals
    go_ret
    refine ⟨ret_bool ?_, B⟩
    rw [HB.out]
    first
      | (rw [eq_comm, decide_eq_true_iff]; unfold L20.FloatOk; omega)
      | (rw [Bool.eq_iff_iff, decide_eq_true_iff]; simp only [Bool.or_eq_true, beq_iff_eq]; unfold L20.FloatOk; omega)
set_option maxRecDepth 100000 in
theorem zero19_any (v : Value) (l : List UInt64) (a : Nat) (b : Bool) (hb : b = decide (Zr l a)) (ha : a + 8 ≤ l.length) (hl : l.length ≤ 1000000) (w : World) (h : Words w v l) :
    Calls Tryz.prog 124 #[v, .int .i64 a] w fun e w' => e = .returned (.bool b) ∧ w = w' := by
  obtain ⟨dv, hcut, hW⟩ := h.cut (P := Tryz.prog) Tryz.underlying22 one_u64 (lo := (a : Int)) (hi := (a : Int) + 8) (by omega) (by omega) (by omega)
  obtain ⟨m, hm⟩ : ∃ m, m = (l.drop a).take 8 := ⟨_, rfl⟩
  have hW' : Words w dv m := by
    rw [hm]
    rw [show ((a : Int) + 8).toNat - (a : Int).toNat = 8 by omega, Int.toNat_natCast] at hW
    exact hW
  have hlm : m.length = 8 := by rw [hm, List.length_take, List.length_drop]; omega
  have ln := Rd.len hW' Tryz.underlying22
  rw [hlm] at ln
  have hget : ∀ i x, m[i]? = some x → l.getD (a + i) 0 = x := fun i x hx => by
    rw [hm] at hx
    have hi : i < 8 := by have := (List.getElem?_eq_some_iff.1 hx).1; simp at this; omega
    rw [List.getElem?_take_of_lt hi, List.getElem?_drop] at hx
    rw [List.getD_eq_getElem?_getD, hx]; rfl
  have hw8 : IntKind.i64.wrap ((a : Int) + 8) = (a : Int) + 8 := IntWalk.i64_in _ (by omega)
  have HB := Lib.hid hb; have HG := Lib.hid hget; have HL := Lib.hid hlm
  clear hb hget hlm hW hm h
  go_enter Tryz.func124, Tryz.ntmps124
  go_wp2
  go_loopg [13] 8 (fun g i wr => ∃ j : Nat, j ≤ 8 ∧ g = 8 - j ∧ i = .int .i64 j ∧ wr = w ∧ Hid (∀ i, i < j → l.getD (a + i) 0 = 0))
  case atStart => exact ⟨0, by omega, rfl, rfl, rfl, Lib.hid (fun i hi => by omega)⟩
  case round =>
    obtain ⟨j, hj, rfl, rfl, rfl, hz⟩ := hrel
    by_cases hlt : j < 8
    · obtain ⟨ad, x, ia, m0, hx⟩ := hW'.at_ (P := Tryz.prog) Tryz.underlying22 one_u64 (k := j) (by rw [HL.out]; exact hlt)
      have hgx := HG.out j x hx.out
      by_cases hx0 : x = 0
      · have h0 : ((x.toNat : Int) != 0) = false := by rw [hx0]; rfl
        have HZ : Hid (∀ i, i < j + 1 → l.getD (a + i) 0 = 0) := Lib.hid (fun i hi => by
          by_cases e : i = j
          · subst e; rw [hgx, hx0]
          · exact hz.out i (by omega))
        clear hgx hx0
        go_wp2
        go_roundg (8 - (j + 1))
        case measure => omega
        case rel => exact ⟨j + 1, by omega, rfl, by go_num, rfl, HZ⟩
      · have h0 : ((x.toNat : Int) != 0) = true := by rw [bne_iff_ne]; intro e; exact hx0 (UInt64.toNat.inj (by simp; omega))
        have hb : b = false := by rw [HB.out, decide_eq_false_iff_not]; exact fun h => hx0 (by rw [← hgx]; exact h j hlt)
        subst hb
        clear hgx hx0
        go_wp2
        go_ret
        exact ⟨rfl, rfl⟩
    · obtain rfl : j = 8 := by omega
      have hb : b = true := by rw [HB.out, decide_eq_true_iff]; exact hz.out
      subst hb
      go_wp2
      go_ret
      exact ⟨rfl, rfl⟩
/-- what is known of an image: its words, its types, its slots, its objects and their addresses -/
structure Sg (W : World) (v tv sv bv : Value) (g n : Nat) (l : List UInt64) (T : List (List UInt8)) (S : List Sl) (O : List Hb) : Prop where
  w : Words W v l
  t : Typs W tv T
  s : Slots W sv S
  b : Blks W bv O
  m : MapL Tryz.prog 3 4 (.bool false) W g n (fun a => .bool (decide (IsObj O a)))
theorem Sg.below {W W' : World} {v tv sv bv : Value} {g n : Nat} {l : List UInt64} {T : List (List UInt8)} {S : List Sl} {O : List Hb} (h : Sg W v tv sv bv g n l T S O) (hb : Below W.heap.size W W') : Sg W' v tv sv bv g n l T S O :=
  ⟨h.w.below hb, h.t.below hb, Slots.below h.s hb, h.b.below hb, h.m.below hb⟩
theorem zero_bool (W : World) : (zeroValue 4).run Tryz.prog W = .ok (.bool false) W := by kernel_rfl
theorem Sg.look {W : World} {v tv sv bv : Value} {g n : Nat} {l : List UInt64} {T : List (List UInt8)} {S : List Sl} {O : List Hb} (h : Sg W v tv sv bv g n l T S O) {a : Int} (ha : i64Ok a) :
    (Instr.lookup 177 (.map (some g)) (.int .i64 a) false).run Tryz.prog W = .ok (.bool (decide (IsObj O a))) W := h.m.lookB Tryz.underlying3 Tryz.underlying177 Tryz.underlying4 (zero_bool W) ha
/-- an object lies in its image -/
def In19 (l : List UInt64) (b : Hb) : Prop := ∃ a : Nat, b.at_ = a ∧ BkOk b ∧ (a : Int) + b.size ≤ l.length
set_option maxRecDepth 100000 in
set_option maxHeartbeats 1000000 in
theorem idleB_any (v tv sv bv : Value) (g : Nat) (b : Hb) (c : Bool) (hc : c = decide (Idle b)) (w : World) :
    Calls Tryz.prog 103 #[.agg #[v, tv, sv, bv, .map (some g)], .agg #[.int .i64 b.at_, .int .i64 b.size, .int .i64 b.kind, .int .i64 b.ty, .bool b.mark, .int .u64 b.next.toNat]] w fun e w' => e = .returned (.bool c) ∧ Below w.heap.size w w' := by
  have B : Below w.heap.size w w := Below.refl _ _
  have HC := Lib.hid hc; clear hc
  obtain ⟨at_, size, kind, ty, mark, next⟩ := b
  dsimp only at *
  have hn0 : ((next.toNat : Int) == 0) = decide (next = 0) := by
    rw [Bool.eq_iff_iff, beq_iff_eq, decide_eq_true_iff]
    exact ⟨fun e => UInt64.toNat.inj (by simp; omega), fun e => by rw [e]; rfl⟩
  obtain ⟨q, hq⟩ : ∃ q, q = decide (next = 0) := ⟨_, rfl⟩
  rw [← hq] at hn0
  have hc : c = (!mark && q) := by rw [HC.out, hq]; unfold Idle; cases mark <;> simp
  clear HC hq
  cases mark
  all_goals
    go_enter Tryz.func103, Tryz.ntmps103
    go_wp2
    go_ret
    refine ⟨by rw [hc]; rfl, ?_⟩
    (repeat (first | refine Below.setCell ?_ (by first | exact Nat.le_refl _ | (simp <;> omega)) _ | refine Below.alloc ?_ (by first | exact B.size | (have := B.size; simp <;> omega)) _)); exact B
set_option maxRecDepth 100000 in
set_option maxHeartbeats 1000000 in
theorem typedB_any (v tv sv bv : Value) (g : Nat) (T : List (List UInt8)) (b : Hb) (c : Bool) (hc : c = decide (Typed T b)) (h0 : 0 ≤ b.ty) (hT : ∀ t ∈ T, kErr t = 0) (w : World) (h : Typs w tv T) :
    Calls Tryz.prog 104 #[.agg #[v, tv, sv, bv, .map (some g)], .agg #[.int .i64 b.at_, .int .i64 b.size, .int .i64 b.kind, .int .i64 b.ty, .bool b.mark, .int .u64 b.next.toNat]] w fun e w' => e = .returned (.bool c) ∧ Below w.heap.size w w' := by
  have B : Below w.heap.size w w := Below.refl _ _
  have lt := h.len
  obtain ⟨NT, hNT⟩ : ∃ N, N = T.length := ⟨_, rfl⟩
  rw [← hNT] at lt
  by_cases hlt : b.ty < T.length
  · obtain ⟨q, hq⟩ := Int.eq_ofNat_of_zero_le h0
    obtain ⟨at_, size, kind, ty, mark, next⟩ := b
    dsimp only at *
    subst hq
    have hqT : q < T.length := by omega
    obtain ⟨ad, x, t, it, m0, ht, hx⟩ := h.at_ (k := q) hqT
    have hk : kErr t = 0 := hT t (List.mem_of_getElem? ht.out)
    obtain ⟨n, hn⟩ : ∃ n, n = kSize t := ⟨_, rfl⟩
    have KT := Lib.hid (fun w h => KSize_any x t n 0 hn hk.symm w h)
    have hck : c = decide (n = size) := by
      rw [hc, Bool.eq_iff_iff, decide_eq_true_iff, decide_eq_true_iff]
      unfold Typed kindsB
      rw [Int.toNat_natCast, List.getD_eq_getElem?_getD, ht.out, hn, kSize, if_pos hk]
      simp only [Option.getD_some]
      exact ⟨fun h => h.2.symm, fun h => ⟨hlt, h.symm⟩⟩
    have n1 : ¬ (NT : Int) ≤ (q : Int) := by omega
    have HX := hx
    have HC := Lib.hid hck
    clear hc hT hk hn ht hx hck hlt hqT h0 hNT
    go_enter Tryz.func104, Tryz.ntmps104
    go_upto_region 1 with (fail)
    refine wp_gen (fun Wv => Bx Wv (w.heap.size) (179) (#[v, tv, sv, bv, .map (some g)]) ∧ Bx Wv (w.heap.size + 1) (69) (#[.int .i64 at_, .int .i64 size, .int .i64 kind, .int .i64 q, .bool mark, .int .u64 next.toNat]) ∧ Below w.heap.size w Wv) ⟨(((Bx.at_ (by simp)).alloc _)), ((Bx.at_ (by simp))), (((Below.refl _ w).alloc (by simp <;> omega) _).alloc (by simp <;> omega) _)⟩ ?_
    rintro wa1 ⟨g1, g2, b⟩
    replace m0 := cell_later b m0; replace B := B.trans (b.mono B.size); clear b
    have c_g1 := g1.cell; have f_g1 := g1.free; have a_g1 := fun o => (g1.alloc o).cell; have d_g1 := fun o o2 => ((g1.alloc o).alloc o2).cell; have e_g1 := fun o => (g1.alloc o).free
    have c_g2 := g2.cell; have f_g2 := g2.free; have a_g2 := fun o => (g2.alloc o).cell; have d_g2 := fun o o2 => ((g2.alloc o).alloc o2).cell; have e_g2 := fun o => (g2.alloc o).free
    go_wp2_with fail
    refine (KT.out _ (Byts.below HX.out B)).mono ?_
    rintro e w' ⟨rfl, rfl⟩
    go_wp2
    go_ret
    refine ⟨ret_bool ?_, B⟩
    rw [HC.out, Bool.eq_iff_iff, beq_iff_eq, decide_eq_true_iff]
  · have hc0 : c = false := by rw [hc, decide_eq_false_iff_not]; exact fun h => hlt h.1
    obtain ⟨at_, size, kind, ty, mark, next⟩ := b
    dsimp only at *
    have n1 : (NT : Int) ≤ ty := by omega
    subst hc0
    clear hc hT hlt hNT h
    go_enter Tryz.func104, Tryz.ntmps104
    go_upto_region 1 with (fail)
    refine wp_gen (fun Wv => Bx Wv (w.heap.size) (179) (#[v, tv, sv, bv, .map (some g)]) ∧ Bx Wv (w.heap.size + 1) (69) (#[.int .i64 at_, .int .i64 size, .int .i64 kind, .int .i64 ty, .bool mark, .int .u64 next.toNat]) ∧ Below w.heap.size w Wv) ⟨(((Bx.at_ (by simp)).alloc _)), ((Bx.at_ (by simp))), (((Below.refl _ w).alloc (by simp <;> omega) _).alloc (by simp <;> omega) _)⟩ ?_
    rintro wa1 ⟨g1, g2, b⟩
    replace B := B.trans (b.mono B.size); clear b
    have c_g1 := g1.cell; have f_g1 := g1.free; have a_g1 := fun o => (g1.alloc o).cell; have d_g1 := fun o o2 => ((g1.alloc o).alloc o2).cell; have e_g1 := fun o => (g1.alloc o).free
    have c_g2 := g2.cell; have f_g2 := g2.free; have a_g2 := fun o => (g2.alloc o).cell; have d_g2 := fun o o2 => ((g2.alloc o).alloc o2).cell; have e_g2 := fun o => (g2.alloc o).free
    go_wp2
    go_ret
    exact ⟨rfl, B⟩
end Go.Proofs.YtbfmdbeeiicabaaGreat
namespace Go.Proofs.YtbfmdbeeiicabaaGreat
open Go.RowKit L01 L02 L05 L13 L14 L15 L18 L19
/-- the kinds of the fields of an object, and where its words lie -/
theorem in_kinds {l : List UInt64} {T : List (List UInt8)} {b : Hb} (hi : In19 l b) (ht : Typed T b) : ∃ (a q : Nat) (t : List UInt8), b.at_ = a ∧ b.ty = q ∧ T[q]? = some t ∧ kindsB T b = t ∧ 128 ≤ a + 128 ∧ a + 2 + t.length ≤ l.length ∧ (t.length % 2 = 1 → a + 2 + t.length < l.length) := by
  obtain ⟨a, ha, hok, hle⟩ := hi
  have hb := hok.bounds
  obtain ⟨q, hq⟩ := Int.eq_ofNat_of_zero_le hb.2.2.2.2.1
  have hlt : q < T.length := by have := ht.1; omega
  have hT : T[q]? = some T[q] := List.getElem?_eq_getElem hlt
  have hk : kindsB T b = T[q] := by unfold kindsB; rw [hq, Int.toNat_natCast, List.getD_eq_getElem?_getD, hT]; rfl
  have hs := ht.2
  rw [hk] at hs
  exact ⟨a, q, T[q], ha, hq, hT, hk, by omega, by omega, fun h => by omega⟩
set_option maxRecDepth 100000 in
set_option maxHeartbeats 1000000 in
theorem paddedB_any (v tv sv bv : Value) (g : Nat) (l : List UInt64) (T : List (List UInt8)) (b : Hb) (c : Bool) (hc : c = decide (Padded l T b)) (hi : In19 l b) (hty : Typed T b) (hl : l.length ≤ 1000000) (w : World) (hw : Words w v l) (h : Typs w tv T) :
    Calls Tryz.prog 105 #[.agg #[v, tv, sv, bv, .map (some g)], .agg #[.int .i64 b.at_, .int .i64 b.size, .int .i64 b.kind, .int .i64 b.ty, .bool b.mark, .int .u64 b.next.toNat]] w fun e w' => e = .returned (.bool c) ∧ Below w.heap.size w w' := by
  have B : Below w.heap.size w w := Below.refl _ _
  obtain ⟨a, q, t, ha, hq, hT, hk, _, hle, hodd⟩ := in_kinds hi hty
  obtain ⟨ad, x, t', it, m0, ht', hx⟩ := h.at_ (k := q) (List.getElem?_eq_some_iff.1 hT).1
  obtain rfl : t' = t := by have := ht'.out; rw [hT] at this; injection this with this; exact this.symm
  obtain ⟨n, hn⟩ : ∃ n, n = t'.length := ⟨_, rfl⟩
  have lx := Rd.len hx.out Tryz.underlying94
  rw [← hn] at lx hle hodd
  have hcp : c = decide (n % 2 = 0 ∨ fw l b n = 0) := by rw [hc, Bool.eq_iff_iff, decide_eq_true_iff, decide_eq_true_iff]; unfold Padded; rw [hk, ← hn]
  obtain ⟨at_, size, kind, ty, mark, next⟩ := b
  dsimp only at ha hq
  subst ha; subst hq
  have hfw : fw l ⟨(a : Int), size, kind, (q : Int), mark, next⟩ n = l.getD (a + 2 + n) 0 := by unfold fw; rw [Int.toNat_natCast]
  rw [hfw] at hcp
  have HC := Lib.hid hcp
  have hw1 : IntKind.i64.wrap ((a : Int) + 2) = (a : Int) + 2 := IntWalk.i64_in _ (by omega)
  have hw2 : IntKind.i64.wrap ((a : Int) + 2 + (n : Int)) = (a : Int) + 2 + (n : Int) := IntWalk.i64_in _ (by omega)
  have HH := Lib.hid hn
  by_cases hev : n % 2 = 0
  · have e1 : ((n : Int).tmod 2 == 0) = true := by rw [beq_iff_eq, Int.tmod_eq_emod_of_nonneg (by omega)]; omega
    have e2 : ((n : Int) % 2 == 0) = true := by rw [beq_iff_eq]; omega
    have e3 : (n : Int).tmod 2 = 0 := by rw [Int.tmod_eq_emod_of_nonneg (by omega)]; omega
    have hc1 : c = true := by rw [hcp, decide_eq_true_iff]; exact .inl hev
    subst hc1
    clear hc hi hty hT hk hle hodd ht' hx hcp hfw hn hw h
    go_enter Tryz.func105, Tryz.ntmps105
    go_upto_region 1 with (fail)
    refine wp_gen (fun Wv => Bx Wv (w.heap.size) (179) (#[v, tv, sv, bv, .map (some g)]) ∧ Bx Wv (w.heap.size + 1) (69) (#[.int .i64 a, .int .i64 size, .int .i64 kind, .int .i64 q, .bool mark, .int .u64 next.toNat]) ∧ Below w.heap.size w Wv) ⟨(((Bx.at_ (by simp)).alloc _)), ((Bx.at_ (by simp))), (((Below.refl _ w).alloc (by simp <;> omega) _).alloc (by simp <;> omega) _)⟩ ?_
    rintro wa1 ⟨g1, g2, b⟩
    replace m0 := cell_later b m0; replace B := B.trans (b.mono B.size); clear b
    have c_g1 := g1.cell; have f_g1 := g1.free; have a_g1 := fun o => (g1.alloc o).cell; have d_g1 := fun o o2 => ((g1.alloc o).alloc o2).cell; have e_g1 := fun o => (g1.alloc o).free
    have c_g2 := g2.cell; have f_g2 := g2.free; have a_g2 := fun o => (g2.alloc o).cell; have d_g2 := fun o o2 => ((g2.alloc o).alloc o2).cell; have e_g2 := fun o => (g2.alloc o).free
    go_wp2
    go_ret
    exact ⟨rfl, B⟩
  · have e1 : ((n : Int).tmod 2 == 0) = false := by rw [beq_eq_false_iff_ne, Int.tmod_eq_emod_of_nonneg (by omega)]; omega
    have e2 : ((n : Int) % 2 == 0) = false := by rw [beq_eq_false_iff_ne]; omega
    have e3 : (n : Int).tmod 2 = 1 := by rw [Int.tmod_eq_emod_of_nonneg (by omega)]; omega
    obtain ⟨ad2, y, iy, m1, hy⟩ := hw.at_ (P := Tryz.prog) Tryz.underlying22 one_u64 (k := a + 2 + n) (hodd (by omega))
    have iy2 : ∀ W, (Instr.indexAt 22 v (.int .i64 ((a : Int) + 2 + (n : Int)))).run Tryz.prog W = .ok (.pointer (some ad2)) W := iy
    have hgy : l.getD (a + 2 + n) 0 = y := by rw [List.getD_eq_getElem?_getD, hy.out]; rfl
    have hc1 : c = decide (y = 0) := by rw [hcp, hgy]; simp [hev]
    have hy0 : ((y.toNat : Int) == 0) = c := by
      rw [hc1, Bool.eq_iff_iff, beq_iff_eq, decide_eq_true_iff]
      exact ⟨fun e => UInt64.toNat.inj (by simp; omega), fun e => by rw [e]; rfl⟩
    clear hc hi hty hT hk hle hodd ht' hx hcp hfw hn hw h hgy hc1 hy HC
    go_enter Tryz.func105, Tryz.ntmps105
    go_upto_region 1 with (fail)
    refine wp_gen (fun Wv => Bx Wv (w.heap.size) (179) (#[v, tv, sv, bv, .map (some g)]) ∧ Bx Wv (w.heap.size + 1) (69) (#[.int .i64 a, .int .i64 size, .int .i64 kind, .int .i64 q, .bool mark, .int .u64 next.toNat]) ∧ Below w.heap.size w Wv) ⟨(((Bx.at_ (by simp)).alloc _)), ((Bx.at_ (by simp))), (((Below.refl _ w).alloc (by simp <;> omega) _).alloc (by simp <;> omega) _)⟩ ?_
    rintro wa1 ⟨g1, g2, b⟩
    replace m0 := cell_later b m0; replace m1 := cell_later b m1; replace B := B.trans (b.mono B.size); clear b
    have c_g1 := g1.cell; have f_g1 := g1.free; have a_g1 := fun o => (g1.alloc o).cell; have d_g1 := fun o o2 => ((g1.alloc o).alloc o2).cell; have e_g1 := fun o => (g1.alloc o).free
    have c_g2 := g2.cell; have f_g2 := g2.free; have a_g2 := fun o => (g2.alloc o).cell; have d_g2 := fun o o2 => ((g2.alloc o).alloc o2).cell; have e_g2 := fun o => (g2.alloc o).free
    go_wp2
    go_ret
    exact ⟨rfl, B⟩
set_option maxRecDepth 100000 in
set_option maxHeartbeats 2000000 in
theorem floatsB_any (v tv sv bv : Value) (g : Nat) (l : List UInt64) (T : List (List UInt8)) (b : Hb) (c : Bool) (hc : c = decide (FloatsB l T b)) (hi : In19 l b) (hty : Typed T b) (hl : l.length ≤ 1000000) (w : World) (hw : Words w v l) (h : Typs w tv T) :
    Calls Tryz.prog 106 #[.agg #[v, tv, sv, bv, .map (some g)], .agg #[.int .i64 b.at_, .int .i64 b.size, .int .i64 b.kind, .int .i64 b.ty, .bool b.mark, .int .u64 b.next.toNat]] w fun e w' => e = .returned (.bool c) ∧ Below w.heap.size w w' := by
  have B : Below w.heap.size w w := Below.refl _ _
  obtain ⟨a, q, t, ha, hq, hT, hk, _, hle, _⟩ := in_kinds hi hty
  obtain ⟨ad, x, t', it, m0, ht', hx⟩ := h.at_ (k := q) (List.getElem?_eq_some_iff.1 hT).1
  obtain rfl : t' = t := by have := ht'.out; rw [hT] at this; injection this with this; exact this.symm
  obtain ⟨n, hn⟩ : ∃ n, n = t'.length := ⟨_, rfl⟩
  have lx := Rd.len hx.out Tryz.underlying94
  rw [← hn] at lx hle
  have hcp : c = decide (∀ i, i < n → (t'.getD i 0).toNat = 2 → L20.FloatOk (fw l b i)) := by rw [hc, Bool.eq_iff_iff, decide_eq_true_iff, decide_eq_true_iff]; unfold FloatsB; rw [hk, ← hn]
  obtain ⟨at_, size, kind, ty, mark, next⟩ := b
  dsimp only at ha hq
  subst ha; subst hq
  have hfw : ∀ i, fw l ⟨(a : Int), size, kind, (q : Int), mark, next⟩ i = l.getD (a + 2 + i) 0 := fun i => by unfold fw; rw [Int.toNat_natCast]
  have HC := Lib.hid (And.intro hcp hfw)
  have hw1 : IntKind.i64.wrap ((a : Int) + 2) = (a : Int) + 2 := IntWalk.i64_in _ (by omega)
  have HH := Lib.hid hn; have HX := hx; have HW := Lib.hid hw
  have HN := Lib.hid (And.intro hle hl)
  have hnb : n ≤ 1000000 := by omega
  clear hc hi hty hT hk hle ht' hx hcp hfw hn hw h hl
  go_enter Tryz.func106, Tryz.ntmps106
  go_upto_region 1 with (fail)
  refine wp_gen (fun Wv => Bx Wv (w.heap.size) (179) (#[v, tv, sv, bv, .map (some g)]) ∧ Bx Wv (w.heap.size + 1) (69) (#[.int .i64 a, .int .i64 size, .int .i64 kind, .int .i64 q, .bool mark, .int .u64 next.toNat]) ∧ Below w.heap.size w Wv) ⟨(((Bx.at_ (by simp)).alloc _)), ((Bx.at_ (by simp))), (((Below.refl _ w).alloc (by simp <;> omega) _).alloc (by simp <;> omega) _)⟩ ?_
  rintro wa1 ⟨g1, g2, b⟩
  replace m0 := cell_later b m0; replace B := B.trans (b.mono B.size); clear b
  have c_g1 := g1.cell; have f_g1 := g1.free; have a_g1 := fun o => (g1.alloc o).cell; have d_g1 := fun o o2 => ((g1.alloc o).alloc o2).cell; have e_g1 := fun o => (g1.alloc o).free
  have c_g2 := g2.cell; have f_g2 := g2.free; have a_g2 := fun o => (g2.alloc o).cell; have d_g2 := fun o o2 => ((g2.alloc o).alloc o2).cell; have e_g2 := fun o => (g2.alloc o).free
  go_wp2
  go_loopg [14] n (fun gg i wr => ∃ j : Nat, j ≤ n ∧ gg = n - j ∧ i = .int .i64 j ∧ Hid (Bx wr w.heap.size 179 #[v, tv, sv, bv, .map (some g)] ∧ Bx wr (w.heap.size + 1) 69 #[.int .i64 a, .int .i64 size, .int .i64 kind, .int .i64 q, .bool mark, .int .u64 next.toNat] ∧ Below w.heap.size w wr) ∧ Hid (∀ i, i < j → (t'.getD i 0).toNat = 2 → L20.FloatOk (l.getD (a + 2 + i) 0)))
  case atStart => exact ⟨0, by omega, rfl, rfl, Lib.hid ⟨g1, g2, B⟩, Lib.hid (fun i hi => by omega)⟩
  case round =>
    obtain ⟨j, hj, rfl, rfl, hh, hz⟩ := hrel
    clear g1 g2 B m0 c_g1 f_g1 a_g1 d_g1 e_g1 c_g2 f_g2 a_g2 d_g2 e_g2
    obtain ⟨g1, g2, B⟩ := hh.out
    have c_g1 := g1.cell; have c_g2 := g2.cell
    by_cases hlt : j < n
    · obtain ⟨ak, kd, ik, mk, hkd⟩ := (Byts.below HX.out B).at_ (P := Tryz.prog) Tryz.underlying94 one_u8 (k := j) (by rw [← HH.out]; exact hlt)
      have hgk : t'.getD j 0 = kd := by rw [List.getD_eq_getElem?_getD, hkd.out]; rfl
      by_cases hk2 : kd.toNat = 2
      · obtain ⟨ad2, y, iy, m2, hy⟩ := (HW.out.below B).at_ (P := Tryz.prog) Tryz.underlying22 one_u64 (k := a + 2 + j) (by have := HN.out.1; omega)
        have iy2 : ∀ W, (Instr.indexAt 22 v (.int .i64 ((a : Int) + 2 + (j : Int)))).run Tryz.prog W = .ok (.pointer (some ad2)) W := iy
        have hgy : l.getD (a + 2 + j) 0 = y := by rw [List.getD_eq_getElem?_getD, hy.out]; rfl
        have hw2 : IntKind.i64.wrap ((a : Int) + 2 + (j : Int)) = (a : Int) + 2 + (j : Int) := IntWalk.i64_in _ (by have := HN.out; omega)
        obtain ⟨fb, hfb⟩ : ∃ fb, fb = decide (L20.FloatOk y) := ⟨_, rfl⟩
        have FT := Lib.hid (fun w => float19_any y fb hfb w)
        rw [hk2] at mk
        cases fb
        · have hno : ¬ L20.FloatOk y := of_decide_eq_false hfb.symm
          have hc0 : c = false := by
            rw [HC.out.1, decide_eq_false_iff_not]
            intro hall
            have := hall j hlt (by rw [hgk]; exact hk2)
            rw [HC.out.2, hgy] at this
            exact hno this
          subst hc0
          clear hfb hno hgy hy hgk hk2 hkd iy
          go_wp2_with fail
          refine (FT.out _).mono ?_
          rintro e wa2 ⟨rfl, b⟩
          try clear c_g1 f_g1 a_g1 d_g1 e_g1
          replace g1 := g1.below b; have c_g1 := g1.cell; have f_g1 := g1.free; have a_g1 := fun o => (g1.alloc o).cell; have d_g1 := fun o o2 => ((g1.alloc o).alloc o2).cell; have e_g1 := fun o => (g1.alloc o).free; try clear c_g2 f_g2 a_g2 d_g2 e_g2
          replace g2 := g2.below b; have c_g2 := g2.cell; have f_g2 := g2.free; have a_g2 := fun o => (g2.alloc o).cell; have d_g2 := fun o o2 => ((g2.alloc o).alloc o2).cell; have e_g2 := fun o => (g2.alloc o).free; replace m2 := cell_later b m2; replace B := B.trans (b.mono B.size); clear b
          go_wp2
          go_ret
          exact ⟨rfl, B⟩
        · have hyes : L20.FloatOk y := of_decide_eq_true hfb.symm
          have HZ : Hid (∀ i, i < j + 1 → (t'.getD i 0).toNat = 2 → L20.FloatOk (l.getD (a + 2 + i) 0)) := Lib.hid (fun i hi h2 => by
            by_cases e : i = j
            · subst e; rw [hgy]; exact hyes
            · exact hz.out i (by omega) h2)
          clear hfb hyes hgy hy hgk hk2 hkd iy
          go_wp2_with fail
          refine (FT.out _).mono ?_
          rintro e wa3 ⟨rfl, b⟩
          try clear c_g1 f_g1 a_g1 d_g1 e_g1
          replace g1 := g1.below b; have c_g1 := g1.cell; have f_g1 := g1.free; have a_g1 := fun o => (g1.alloc o).cell; have d_g1 := fun o o2 => ((g1.alloc o).alloc o2).cell; have e_g1 := fun o => (g1.alloc o).free; try clear c_g2 f_g2 a_g2 d_g2 e_g2
          replace g2 := g2.below b; have c_g2 := g2.cell; have f_g2 := g2.free; have a_g2 := fun o => (g2.alloc o).cell; have d_g2 := fun o o2 => ((g2.alloc o).alloc o2).cell; have e_g2 := fun o => (g2.alloc o).free; replace m2 := cell_later b m2; replace B := B.trans (b.mono B.size); clear b
          have HG := Lib.hid (And.intro g1 (And.intro g2 B))
          go_wp2
          go_roundg (n - (j + 1))
          case measure => omega
          case rel => exact ⟨j + 1, by omega, rfl, by go_num, HG, HZ⟩
      · have hk3 : ((kd.toNat : Int) == 2) = false := by rw [beq_eq_false_iff_ne]; omega
        have HZ : Hid (∀ i, i < j + 1 → (t'.getD i 0).toNat = 2 → L20.FloatOk (l.getD (a + 2 + i) 0)) := Lib.hid (fun i hi h2 => by
          by_cases e : i = j
          · subst e; rw [hgk] at h2; exact absurd h2 hk2
          · exact hz.out i (by omega) h2)
        have HG := Lib.hid (And.intro g1 (And.intro g2 B))
        clear hgk hk2 hkd
        go_wp2
        go_roundg (n - (j + 1))
        case measure => omega
        case rel => exact ⟨j + 1, by omega, rfl, by go_num, HG, HZ⟩
    · obtain rfl : j = n := by omega
      have hc1 : c = true := by rw [HC.out.1, decide_eq_true_iff]; intro i hi h2; rw [HC.out.2]; exact hz.out i hi h2
      subst hc1
      go_wp2
      go_ret
      exact ⟨rfl, B⟩
set_option maxRecDepth 100000 in
set_option maxHeartbeats 2000000 in
theorem refsB_any (v tv sv bv : Value) (g gn : Nat) (l : List UInt64) (T : List (List UInt8)) (S : List Sl) (O : List Hb) (b : Hb) (c : Bool) (hc : c = decide (RefsB l T O b)) (hi : In19 l b) (hty : Typed T b) (hl : l.length ≤ 1000000) (hO : ∀ b ∈ O, b.at_ < l.length) (w : World) (h : Sg w v tv sv bv g gn l T S O) :
    Calls Tryz.prog 107 #[.agg #[v, tv, sv, bv, .map (some g)], .agg #[.int .i64 b.at_, .int .i64 b.size, .int .i64 b.kind, .int .i64 b.ty, .bool b.mark, .int .u64 b.next.toNat]] w fun e w' => e = .returned (.bool c) ∧ Below w.heap.size w w' := by
  have B : Below w.heap.size w w := Below.refl _ _
  obtain ⟨a, q, t, ha, hq, hT, hk, _, hle, _⟩ := in_kinds hi hty
  obtain ⟨ad, x, t', it, m0, ht', hx⟩ := h.t.at_ (k := q) (List.getElem?_eq_some_iff.1 hT).1
  obtain rfl : t' = t := by have := ht'.out; rw [hT] at this; injection this with this; exact this.symm
  obtain ⟨n, hn⟩ : ∃ n, n = t'.length := ⟨_, rfl⟩
  have lx := Rd.len hx.out Tryz.underlying94
  rw [← hn] at lx hle
  obtain ⟨N, hN⟩ : ∃ N, N = l.length := ⟨_, rfl⟩
  have lw := Rd.len h.w Tryz.underlying22
  rw [← hN] at lw hle hl
  have hcp : c = decide (∀ i, i < n → (t'.getD i 0).toNat = 3 → (fw l b i = 0 ∨ IsObj O (fw l b i).toNat)) := by rw [hc, Bool.eq_iff_iff, decide_eq_true_iff, decide_eq_true_iff]; unfold RefsB; rw [hk, ← hn]
  obtain ⟨at_, size, kind, ty, mark, next⟩ := b
  dsimp only at ha hq
  subst ha; subst hq
  have hfw : ∀ i, fw l ⟨(a : Int), size, kind, (q : Int), mark, next⟩ i = l.getD (a + 2 + i) 0 := fun i => by unfold fw; rw [Int.toNat_natCast]
  have HC := Lib.hid (And.intro hcp hfw)
  have hw1 : IntKind.i64.wrap ((a : Int) + 2) = (a : Int) + 2 := IntWalk.i64_in _ (by omega)
  have hw4 : IntKind.u64.wrap (N : Int) = (N : Int) := by rw [wrap_u64]; omega
  have HH := Lib.hid hn; have HX := hx; have HW := Lib.hid h; have HNN := Lib.hid hN; have HO := Lib.hid hO
  have HN := Lib.hid (And.intro hle hl)
  have hnb : n ≤ 1000000 := by omega
  clear hc hi hty hT hk hle ht' hx hcp hfw hn h hl hN hO
  go_enter Tryz.func107, Tryz.ntmps107
  go_upto_region 1 with (fail)
  refine wp_gen (fun Wv => Bx Wv (w.heap.size) (179) (#[v, tv, sv, bv, .map (some g)]) ∧ Bx Wv (w.heap.size + 1) (69) (#[.int .i64 a, .int .i64 size, .int .i64 kind, .int .i64 q, .bool mark, .int .u64 next.toNat]) ∧ Below w.heap.size w Wv) ⟨(((Bx.at_ (by simp)).alloc _)), ((Bx.at_ (by simp))), (((Below.refl _ w).alloc (by simp <;> omega) _).alloc (by simp <;> omega) _)⟩ ?_
  rintro wa1 ⟨g1, g2, b⟩
  replace m0 := cell_later b m0; replace B := B.trans (b.mono B.size); clear b
  have c_g1 := g1.cell; have f_g1 := g1.free; have a_g1 := fun o => (g1.alloc o).cell; have d_g1 := fun o o2 => ((g1.alloc o).alloc o2).cell; have e_g1 := fun o => (g1.alloc o).free
  have c_g2 := g2.cell; have f_g2 := g2.free; have a_g2 := fun o => (g2.alloc o).cell; have d_g2 := fun o o2 => ((g2.alloc o).alloc o2).cell; have e_g2 := fun o => (g2.alloc o).free
  go_wp2
  go_loopg [15] n (fun gg i wr => ∃ j : Nat, j ≤ n ∧ gg = n - j ∧ i = .int .i64 j ∧ wr = wa1 ∧ Hid (∀ i, i < j → (t'.getD i 0).toNat = 3 → (l.getD (a + 2 + i) 0 = 0 ∨ IsObj O (l.getD (a + 2 + i) 0).toNat)))
  case atStart => exact ⟨0, by omega, rfl, rfl, rfl, Lib.hid (fun i hi => by omega)⟩
  case round =>
    obtain ⟨j, hj, rfl, rfl, rfl, hz⟩ := hrel
    by_cases hlt : j < n
    · obtain ⟨ak, kd, ik, mk, hkd⟩ := (Byts.below HX.out B).at_ (P := Tryz.prog) Tryz.underlying94 one_u8 (k := j) (by rw [← HH.out]; exact hlt)
      have hgk : t'.getD j 0 = kd := by rw [List.getD_eq_getElem?_getD, hkd.out]; rfl
      obtain ⟨ad2, y, iy, m2, hy⟩ := (HW.out.below B).w.at_ (P := Tryz.prog) Tryz.underlying22 one_u64 (k := a + 2 + j) (by have := HN.out.1; rw [← HNN.out]; omega)
      have iy2 : ∀ W, (Instr.indexAt 22 v (.int .i64 ((a : Int) + 2 + (j : Int)))).run Tryz.prog W = .ok (.pointer (some ad2)) W := iy
      have hgy : l.getD (a + 2 + j) 0 = y := by rw [List.getD_eq_getElem?_getD, hy.out]; rfl
      have hw2 : IntKind.i64.wrap ((a : Int) + 2 + (j : Int)) = (a : Int) + 2 + (j : Int) := IntWalk.i64_in _ (by have := HN.out; omega)
      have hstep : ((t'.getD j 0).toNat = 3 → (y = 0 ∨ IsObj O y.toNat)) → Hid (∀ i, i < j + 1 → (t'.getD i 0).toNat = 3 → (l.getD (a + 2 + i) 0 = 0 ∨ IsObj O (l.getD (a + 2 + i) 0).toNat)) := fun hh => Lib.hid (fun i hi h2 => by
        by_cases e : i = j
        · subst e; rw [hgy]; exact hh h2
        · exact hz.out i (by omega) h2)
      have hfall : (t'.getD j 0).toNat = 3 → ¬ (y = 0 ∨ IsObj O y.toNat) → c = false := fun h3 hno => by
        rw [HC.out.1, decide_eq_false_iff_not]
        intro hall
        have := hall j hlt h3
        rw [HC.out.2, hgy] at this
        exact hno this
      by_cases hk3 : kd.toNat = 3
      · rw [hk3] at mk
        by_cases hy0 : y = 0
        · have h0 : ((y.toNat : Int) != 0) = false := by rw [hy0]; rfl
          have HZ := hstep (fun _ => .inl hy0)
          clear hstep hfall hgy hgk hy0 hy hkd hk3 iy
          go_wp2
          go_roundg (n - (j + 1))
          case measure => omega
          case rel => exact ⟨j + 1, by omega, rfl, by go_num, rfl, HZ⟩
        · have h0 : ((y.toNat : Int) != 0) = true := by rw [bne_iff_ne]; intro e; exact hy0 (UInt64.toNat.inj (by simp; omega))
          by_cases hyN : y.toNat < N
          · have h1 : ¬ ((N : Int) ≤ (y.toNat : Int)) := by omega
            have h2 : decide ((N : Int) ≤ (y.toNat : Int)) = false := decide_eq_false h1
            have h3 : decide (N ≤ y.toNat) = false := decide_eq_false (by omega)
            have hw3 : IntKind.i64.wrap (y.toNat : Int) = (y.toNat : Int) := IntWalk.i64_in _ (by have := HN.out; omega)
            have hlk := (HW.out.below B).look (a := (y.toNat : Int)) ⟨by omega, by have := HN.out; omega⟩
            obtain ⟨ob, hob⟩ : ∃ ob, ob = decide (IsObj O y.toNat) := ⟨_, rfl⟩
            rw [← hob] at hlk
            cases ob
            · have hc0 := hfall (by rw [hgk]; exact hk3) (fun h => h.elim hy0 (of_decide_eq_false hob.symm))
              subst hc0
              clear hstep hfall hgy hgk hy0 hy hkd hk3 hob iy
              go_wp2
              go_ret
              exact ⟨rfl, B⟩
            · have HZ := hstep (fun _ => .inr (of_decide_eq_true hob.symm))
              clear hstep hfall hgy hgk hy0 hy hkd hk3 hob iy
              go_wp2
              go_roundg (n - (j + 1))
              case measure => omega
              case rel => exact ⟨j + 1, by omega, rfl, by go_num, rfl, HZ⟩
          · have h1 : (N : Int) ≤ (y.toNat : Int) := by omega
            have h2 : decide ((N : Int) ≤ (y.toNat : Int)) = true := decide_eq_true h1
            have h3 : decide (N ≤ y.toNat) = true := decide_eq_true (by omega)
            have hc0 := hfall (by rw [hgk]; exact hk3) (fun h => h.elim hy0 (fun ⟨b', hb', e⟩ => by have := HO.out b' hb'; rw [← HNN.out] at this; omega))
            subst hc0
            clear hstep hfall hgy hgk hy0 hy hkd hk3 iy
            go_wp2
            go_ret
            exact ⟨rfl, B⟩
      · have hkn : ((kd.toNat : Int) == 3) = false := by rw [beq_eq_false_iff_ne]; omega
        have HZ := hstep (fun h3 => absurd (by rw [← hgk]; exact h3) hk3)
        clear hstep hfall hgy hgk hy hkd hk3 iy
        go_wp2
        go_roundg (n - (j + 1))
        case measure => omega
        case rel => exact ⟨j + 1, by omega, rfl, by go_num, rfl, HZ⟩
    · obtain rfl : j = n := by omega
      have hc1 : c = true := by rw [HC.out.1, decide_eq_true_iff]; intro i hi h2; rw [HC.out.2]; exact hz.out i hi h2
      subst hc1
      go_wp2
      go_ret
      exact ⟨rfl, B⟩
end Go.Proofs.YtbfmdbeeiicabaaGreat
namespace Go.Proofs.YtbfmdbeeiicabaaGreat
open Go.RowKit L02 L05 L06
def supV (W T : Int) : Value := .agg #[.int .i64 W, .int .i64 T]
def arr8 (l : List UInt64) : Value := .agg (l.map u64).toArray
set_option maxHeartbeats 1000000 in
theorem words_any (W T : Int) (w : World) (h : SupOk W T) : Calls Tryz.prog 98 #[supV W T] w fun e w' => e = .returned (arr8 (wordsOf W T)) ∧ Below w.heap.size w w' := by
  have h1 := h.1.1; have h2 := h.1.2.1; have h3 := h.2.1; have h4 := h.2.2
  have hu1 := u_nat (n := W) (by omega) (by omega)
  have hu2 := u_nat (n := T) (by omega) (by omega)
  have HU1 := Lib.hid hu1; have HU2 := Lib.hid hu2; clear hu1 hu2 h
  unfold supV
  go_enter Tryz.func98, Tryz.ntmps98
  go_wp2_with fail
  have hW : (((w.alloc (.cells #[.int .i64 W, .int .i64 T] 85)).alloc (.cells #[.int .u64 0, .int .u64 0, .int .u64 0, .int .u64 0, .int .u64 0, .int .u64 0, .int .u64 0, .int .u64 0] 172)).alloc
    (.cells #[.int .u64 32777959566500194, .int .u64 1, .int .u64 W, .int .u64 T, .int .u64 0, .int .u64 0, .int .u64 0, .int .u64 0] 172)).heap.size = w.heap.size + 1 + 1 + 1 := by simp
  have g2 := blk_new ((w.alloc (.cells #[.int .i64 W, .int .i64 T] 85)).alloc (.cells #[.int .u64 0, .int .u64 0, .int .u64 0, .int .u64 0, .int .u64 0, .int .u64 0, .int .u64 0, .int .u64 0] 172))
    (.cells #[.int .u64 32777959566500194, .int .u64 1, .int .u64 W, .int .u64 T, .int .u64 0, .int .u64 0, .int .u64 0, .int .u64 0] 172)
  have g1 := blk_old (blk_new (w.alloc (.cells #[.int .i64 W, .int .i64 T] 85)) (.cells #[.int .u64 0, .int .u64 0, .int .u64 0, .int .u64 0, .int .u64 0, .int .u64 0, .int .u64 0, .int .u64 0] 172))
    (.cells #[.int .u64 32777959566500194, .int .u64 1, .int .u64 W, .int .u64 T, .int .u64 0, .int .u64 0, .int .u64 0, .int .u64 0] 172)
  rw [show ((w.alloc (.cells #[.int .i64 W, .int .i64 T] 85)).alloc (.cells #[.int .u64 0, .int .u64 0, .int .u64 0, .int .u64 0, .int .u64 0, .int .u64 0, .int .u64 0, .int .u64 0] 172)).heap.size = w.heap.size + 1 + 1 by simp] at g2
  rw [show (w.alloc (.cells #[.int .i64 W, .int .i64 T] 85)).heap.size = w.heap.size + 1 by simp] at g1
  have B : Below w.heap.size w _ := (((Below.refl _ w).alloc (Nat.le_refl _) (.cells #[.int .i64 W, .int .i64 T] 85)).alloc (by simp) (.cells #[.int .u64 0, .int .u64 0, .int .u64 0, .int .u64 0, .int .u64 0, .int .u64 0, .int .u64 0, .int .u64 0] 172)).alloc (by simp; omega)
    (.cells #[.int .u64 32777959566500194, .int .u64 1, .int .u64 W, .int .u64 T, .int .u64 0, .int .u64 0, .int .u64 0, .int .u64 0] 172)
  have r := part_words (n := 7) (c := 8) (body W T) g2 rfl rfl (by simp [body, u64, HU1.out, HU2.out, magic]) (by simp)
  refine (Of_any _ _ _ r (by simp [body])).mono ?_
  rintro e w2 ⟨rfl, b⟩
  have g1' := blk_below g1 b; have g2' := blk_below g2 b
  replace B := B.trans (b.mono B.size)
  have hz := b.size
  rw [hW] at hz
  clear r b g1 g2 hW
  obtain ⟨S, hS⟩ : ∃ S, S = sum (body W T) := ⟨_, rfl⟩
  rw [← hS]
  have HS := Lib.hid hS; clear hS
  have c1 := blk_cell g1'; have c2 := blk_cell g2'; have f1 := blk_free g1'; have f2 := blk_free g2'
  have HB := Lib.hid B
  clear B g1' g2'
  go_wp2
  refine bodyPost_ret (v := arr8 (wordsOf W T)) ?_ rfl ⟨rfl, ?_⟩
  · simp [results, Tryz.results98, go_sem, c1, f1]
    simp [arr8, wordsOf, body, u64, HU1.out, HU2.out, magic, HS.out]
  · iterate 9 refine Below.setCell ?_ (by simp <;> omega) _
    exact HB.out
end Go.Proofs.YtbfmdbeeiicabaaGreat
namespace Go.Proofs.YtbfmdbeeiicabaaGreat
open Go.RowKit L02 L05 L06
set_option maxHeartbeats 1000000 in
theorem Read6_bad (v : Value) (l : List UInt64) (w : World) (h : Words w v l) (hl : l.length ≠ 8) :
    Calls Tryz.prog 76 #[v] w fun e w' => e = .returned (.tuple #[supV 0 0, .int .i64 2]) ∧ Below w.heap.size w w' := by
  have l1 := Rd.len h Tryz.underlying22
  have hne : ((l.length : Int) != 8) = true := by simp; omega
  clear h hl
  go_enter Tryz.func76, Tryz.ntmps76
  go_wp2
  go_step3
  go_wp2
  try rw [Exit.noGoto_ret]
  refine bodyPost_ret (v := .tuple #[supV 0 0, .int .i64 2]) ?_ rfl ⟨rfl, ?_⟩
  · simp [results, Tryz.results76, go_sem, supV]
  · exact (Below.refl _ _).alloc (Nat.le_refl _) _
set_option maxHeartbeats 1000000 in
theorem Read6_eight (v : Value) (l : List UInt64) (w : World) (h : Words w v l) (hl : l.length = 8) :
    Calls Tryz.prog 76 #[v] w fun e w' => e = .returned (.tuple #[supV (rdW l) (rdT l), .int .i64 (if ReadOk l then 0 else 50)]) ∧ Below w.heap.size w w' := by
  match l, hl with
  | [x0, x1, x2, x3, x4, x5, x6, x7], _ =>
  obtain ⟨b, o, c, rfl, hb, hc, hcell⟩ := Rd.form h (by simp)
  have c0 := hcell 0 (.int .u64 x0.toNat) rfl
  have c1 := hcell 1 (.int .u64 x1.toNat) rfl
  have c2 := hcell 2 (.int .u64 x2.toNat) rfl
  have c3 := hcell 3 (.int .u64 x3.toNat) rfl
  have c4 := hcell 4 (.int .u64 x4.toNat) rfl
  have c5 := hcell 5 (.int .u64 x5.toNat) rfl
  have c6 := hcell 6 (.int .u64 x6.toNat) rfl
  have c7 := hcell 7 (.int .u64 x7.toNat) rfl
  simp only [Nat.add_zero] at c0
  clear h hcell
  go_enter Tryz.func76, Tryz.ntmps76
  go_wp2
  have ha : ∀ W, (Instr.arrayAt 172 (.slice (some ⟨b, o, none⟩) 8 c)).run Tryz.prog W = .ok (.pointer (some ⟨b, o, none⟩)) W := fun W => by simp [Instr.arrayAt, run_underlying Tryz.underlying172]
  go_step3
  go_wp2
  go_step3
  go_wp2
  obtain ⟨A, hA⟩ : ∃ A, A = (x2.toNat : Int) := ⟨_, rfl⟩
  obtain ⟨T, hT⟩ : ∃ T, T = (x3.toNat : Int) := ⟨_, rfl⟩
  have hA0 : 0 ≤ A := by omega
  have hT0 : 0 ≤ T := by omega
  rw [← hA, ← hT]
  have HA := Lib.hid hA; have HT := Lib.hid hT
  clear hA hT c0 c1 c2 c3 c4 c5 c6 c7 ha
  go_loop [6] (fun n => ∃ k : Int, 256 ≤ k ∧ k ≤ 2056 ∧ k % 8 = 0 ∧ n = .int .i64 k ∧ ¬ (256 ≤ A ∧ A < k ∧ A % 8 = 0 ∧ T ≤ 8)) (fun n => (2056 - intOf n).toNat)
  case atStart => exact ⟨256, by omega, by omega, by omega, rfl, by omega⟩
  case round =>
    obtain ⟨n, n1, n2, n3, rfl, n4⟩ := hrel
    have N3 := Lib.hid n3; have N4 := Lib.hid n4; clear n3 n4
    by_cases hlt : n ≤ 2048
    · by_cases hnA : n = A
      · subst hnA
        go_wp2
        go_loop [19] (fun t => ∃ j : Int, 0 ≤ j ∧ j ≤ 9 ∧ t = .int .i64 j ∧ ¬ T < j) (fun t => (9 - intOf t).toNat)
        case atStart => exact ⟨0, by omega, by omega, rfl, by omega⟩
        case round =>
          obtain ⟨t, t1, t2, rfl, t3⟩ := hrel
          by_cases htl : t < 9
          · by_cases htT : t = T
            · subst htT
              go_wp2
              refine wp_gen (fun W => W.heap[w.heap.size]? = some (.cells #[.int .i64 0, .int .i64 0] 85 (0, 0)) ∧ W.heap[w.heap.size + 1]? = some (.cells #[.int .i64 n, .int .i64 t] 85 (0, 0)) ∧
                W.heap[w.heap.size + 1 + 1]? = some (.cells #[.int .u64 x0.toNat, .int .u64 x1.toNat, .int .u64 n, .int .u64 t, .int .u64 x4.toNat, .int .u64 x5.toNat, .int .u64 x6.toNat, .int .u64 x7.toNat] 172 (0, 0)) ∧ Below w.heap.size w W ∧ w.heap.size + 3 ≤ W.heap.size)
                ⟨by simp only [alloc_heap, Array.getElem?_push, Array.size_push]; simp <;> omega, by simp only [alloc_heap, Array.getElem?_push, Array.size_push]; simp <;> omega, by simp only [alloc_heap, Array.getElem?_push, Array.size_push]; simp <;> omega, (((Below.refl _ w).alloc (Nat.le_refl _) _).alloc (by simp) _).alloc (by simp; omega) _, by simp⟩ ?_
              rintro w1 ⟨g0, g1, g2, B, hz⟩
              have c0 := blk_cell g0; have c1 := blk_cell g1; have c2 := blk_cell g2; have f0 := blk_free g0
              have HB := Lib.hid B; clear B
              have s0 : w1.cell? ⟨w.heap.size + 1, 0, none⟩ = some (.int .i64 n) := c1 0
              have s1 : w1.cell? ⟨w.heap.size + 1, 1, none⟩ = some (.int .i64 t) := c1 1
              have a0 : w1.cell? ⟨w.heap.size + 1 + 1, 0, none⟩ = some (.int .u64 x0.toNat) := c2 0
              have a1 : w1.cell? ⟨w.heap.size + 1 + 1, 1, none⟩ = some (.int .u64 x1.toNat) := c2 1
              have a2 : w1.cell? ⟨w.heap.size + 1 + 1, 2, none⟩ = some (.int .u64 n) := c2 2
              have a3 : w1.cell? ⟨w.heap.size + 1 + 1, 3, none⟩ = some (.int .u64 t) := c2 3
              have a4 : w1.cell? ⟨w.heap.size + 1 + 1, 4, none⟩ = some (.int .u64 x4.toNat) := c2 4
              have a5 : w1.cell? ⟨w.heap.size + 1 + 1, 5, none⟩ = some (.int .u64 x5.toNat) := c2 5
              have a6 : w1.cell? ⟨w.heap.size + 1 + 1, 6, none⟩ = some (.int .u64 x6.toNat) := c2 6
              have a7 : w1.cell? ⟨w.heap.size + 1 + 1, 7, none⟩ = some (.int .u64 x7.toNat) := c2 7
              have G0 := Lib.hid g0; have G1 := Lib.hid g1; have G2 := Lib.hid g2; have HT0 := Lib.hid t3
              have hok : SupOk n t := ⟨⟨n1, hlt, N3.out⟩, t1, by omega⟩
              have HOK := Lib.hid hok
              have hcmp := fun W => run_neq_words (P := Tryz.prog) (n := 8) Tryz.underlying172 (by kernel_rfl) Tryz.underlying40 (by kernel_rfl) (fun X j u W h => run_part_plain W (by kernel_rfl) h) (wordsOf n t) [x0, x1, x2, x3, x4, x5, x6, x7] rfl rfl W
              have e1 : (List.map u64 [x0, x1, x2, x3, x4, x5, x6, x7]).toArray = #[.int .u64 x0.toNat, .int .u64 x1.toNat, .int .u64 n, .int .u64 t, .int .u64 x4.toNat, .int .u64 x5.toNat, .int .u64 x6.toNat, .int .u64 x7.toNat] := by rw [HA.out, HT.out]; rfl
              rw [e1] at hcmp
              obtain ⟨V, hV⟩ : ∃ V, V = (List.map u64 (wordsOf n t)).toArray := ⟨_, rfl⟩
              rw [← hV] at hcmp
              have HV := Lib.hid hV
              have hz0 : (n == 0) = false := by rw [beq_eq_false_iff_ne]; omega
              have heql : ∀ W, (binOp .eql 85 (.agg #[.int .i64 n, .int .i64 t]) (.agg #[.int .i64 0, .int .i64 0])).run Tryz.prog W = .ok (.bool false) W := by
                intro W
                simp [go_sem, hz0]
              clear g0 g1 g2 c1 c2 t3 hok e1 hV hz0
              obtain ⟨dB, hdB⟩ : ∃ dB, dB = decide (wordsOf n t = [x0, x1, x2, x3, x4, x5, x6, x7]) := ⟨_, rfl⟩
              rw [← hdB] at hcmp
              have HDB := Lib.hid hdB; clear hdB
              have hat : at2 [x0, x1, x2, x3, x4, x5, x6, x7] = n ∧ at3 [x0, x1, x2, x3, x4, x5, x6, x7] = t := ⟨HA.out.symm, HT.out.symm⟩
              have HAT := Lib.hid hat; clear hat
              have k3 : ∀ (W : World), Below w1.heap.size w1 W → W.heap[w.heap.size]? = some (.cells #[.int .i64 0, .int .i64 0] 85 (0, 0)) := fun W b => blk_below G0.out b
              have K3 := Lib.hid k3; clear k3
              cases dB
              all_goals
                go_region_held3 (fun w' => w'.cell? ⟨w.heap.size + 1, 0, none⟩ = some (.int .i64 n) ∧ w'.cell? ⟨w.heap.size + 1, 1, none⟩ = some (.int .i64 t) ∧ w'.cell? ⟨w.heap.size + 1 + 1, 0, none⟩ = some (.int .u64 x0.toNat) ∧ w'.cell? ⟨w.heap.size + 1 + 1, 1, none⟩ = some (.int .u64 x1.toNat) ∧ w'.cell? ⟨w.heap.size + 1 + 1, 2, none⟩ = some (.int .u64 n) ∧ w'.cell? ⟨w.heap.size + 1 + 1, 3, none⟩ = some (.int .u64 t) ∧ w'.cell? ⟨w.heap.size + 1 + 1, 4, none⟩ = some (.int .u64 x4.toNat) ∧ w'.cell? ⟨w.heap.size + 1 + 1, 5, none⟩ = some (.int .u64 x5.toNat) ∧ w'.cell? ⟨w.heap.size + 1 + 1, 6, none⟩ = some (.int .u64 x6.toNat) ∧ w'.cell? ⟨w.heap.size + 1 + 1, 7, none⟩ = some (.int .u64 x7.toNat))
                  (first | exact ⟨s0, s1, a0, a1, a2, a3, a4, a5, a6, a7⟩ | exact ⟨(k2 _ _ (by omega)).trans s0, (k2 _ _ (by omega)).trans s1, (k2 _ _ (by omega)).trans a0, (k2 _ _ (by omega)).trans a1, (k2 _ _ (by omega)).trans a2, (k2 _ _ (by omega)).trans a3, (k2 _ _ (by omega)).trans a4, (k2 _ _ (by omega)).trans a5, (k2 _ _ (by omega)).trans a6, (k2 _ _ (by omega)).trans a7⟩)
                  (first | (go_at_call 98; refine (words_any n t _ HOK.out).mono ?_; rw [show arr8 (wordsOf n t) = .agg V by rw [HV.out]; rfl]; rintro e w2 ⟨rfl, b2⟩; have k2 : ∀ (g q : Nat), g < w1.heap.size → w2.cell? ⟨g, q, none⟩ = w1.cell? ⟨g, q, none⟩ := fun g q hg => b2.cell (p := ⟨g, q, none⟩) hg))
                have b3 := (below_drewN (Below.refl w1.heap.size w1) 1).trans b2
                have z0 := blk_cell (K3.out _ b3); have zf := blk_free (K3.out _ b3); have z1 := blk_cell (blk_below G1.out b3)
                have HB2 := Lib.hid b3
                clear k2 b2 b3
                go_wp2
                try rw [Exit.noGoto_ret]
              · have hno : ¬ ReadOk [x0, x1, x2, x3, x4, x5, x6, x7] := by
                  rintro ⟨_, h2⟩
                  rw [HAT.out.1, HAT.out.2] at h2
                  exact absurd h2.symm (of_decide_eq_false HDB.out.symm)
                refine bodyPost_ret (v := .tuple #[supV 0 0, .int .i64 50]) ?_ rfl ⟨?_, ?_⟩
                · simp [results, Tryz.results76, go_sem, supV, z0, zf]
                · rw [if_neg hno, (rd_no hno).1, (rd_no hno).2]
                · exact ((HB.out.trans (HB2.out.mono HB.out.size)).setCell (Nat.le_refl _) _).setCell (Nat.le_refl _) _
              · have hyes : ReadOk [x0, x1, x2, x3, x4, x5, x6, x7] := by
                  unfold ReadOk
                  rw [HAT.out.1, HAT.out.2]
                  exact ⟨HOK.out, (of_decide_eq_true HDB.out.symm).symm⟩
                refine bodyPost_ret (v := .tuple #[supV n t, .int .i64 0]) ?_ rfl ⟨?_, ?_⟩
                · simp [results, Tryz.results76, go_sem, supV, z0, zf]
                · rw [if_pos hyes, rdW, if_pos hyes, rdT, if_pos hyes, HAT.out.1, HAT.out.2]
                · exact ((HB.out.trans (HB2.out.mono HB.out.size)).setCell (Nat.le_refl _) _).setCell (Nat.le_refl _) _
            · have hne : (t == T) = false := by rw [beq_eq_false_iff_ne]; exact htT
              go_wp2
              go_round
              case rel => exact ⟨t + 1, by omega, by omega, rfl, by omega⟩
              case measure => simp [intOf]; omega
          · go_wp2
            go_round
            case rel => exact ⟨n + 8, by omega, by omega, by have := N3.out; omega, rfl, by omega⟩
            case measure => simp [intOf]; omega
      · have hne : (n == A) = false := by rw [beq_eq_false_iff_ne]; exact hnA
        go_wp2
        go_loop [19] (fun t => ∃ j : Int, 0 ≤ j ∧ j ≤ 9 ∧ t = .int .i64 j) (fun t => (9 - intOf t).toNat)
        case atStart => exact ⟨0, by omega, by omega, rfl⟩
        case round =>
          obtain ⟨t, t1, t2, rfl⟩ := hrel
          by_cases htl : t < 9
          · go_wp2
            go_round
            case rel => exact ⟨t + 1, by omega, by omega, rfl⟩
            case measure => simp [intOf]; omega
          · go_wp2
            go_round
            case rel => exact ⟨n + 8, by omega, by omega, by have := N3.out; omega, rfl, by have := N3.out; have := N4.out; omega⟩
            case measure => simp [intOf]; omega
    · go_wp2
      refine wp_gen (fun W => W.heap[w.heap.size]? = some (.cells #[.int .i64 0, .int .i64 0] 85 (0, 0)) ∧ W.heap[w.heap.size + 1]? = some (.cells #[.int .i64 0, .int .i64 0] 85 (0, 0)) ∧
        W.heap[w.heap.size + 1 + 1]? = some (.cells #[.int .u64 x0.toNat, .int .u64 x1.toNat, .int .u64 A, .int .u64 T, .int .u64 x4.toNat, .int .u64 x5.toNat, .int .u64 x6.toNat, .int .u64 x7.toNat] 172 (0, 0)) ∧ Below w.heap.size w W ∧ w.heap.size + 3 ≤ W.heap.size)
        ⟨by simp only [alloc_heap, Array.getElem?_push, Array.size_push]; simp <;> omega, by simp only [alloc_heap, Array.getElem?_push, Array.size_push]; simp <;> omega, by simp only [alloc_heap, Array.getElem?_push, Array.size_push]; simp <;> omega, (((Below.refl _ w).alloc (Nat.le_refl _) _).alloc (by simp) _).alloc (by simp; omega) _, by simp⟩ ?_
      rintro w1 ⟨g0, g1, g2, B, hz⟩
      have c0 := blk_cell g0; have c1 := blk_cell g1; have c2 := blk_cell g2; have f0 := blk_free g0
      have HB := Lib.hid B; clear B
      have G0 := Lib.hid g0; clear g0 g1 g2
      go_big_quiet (fail)
      go_wp2
      try rw [Exit.noGoto_ret]
      have hno : ¬ ReadOk [x0, x1, x2, x3, x4, x5, x6, x7] := by
        rintro ⟨⟨⟨h1, h2, h3⟩, h4, h5⟩, _⟩
        have h6 : at2 [x0, x1, x2, x3, x4, x5, x6, x7] = A := HA.out.symm
        have h7 : at3 [x0, x1, x2, x3, x4, x5, x6, x7] = T := HT.out.symm
        rw [h6] at h1 h2 h3
        rw [h7] at h4 h5
        exact N4.out ⟨h1, by omega, h3, h5⟩
      refine bodyPost_ret (v := .tuple #[supV 0 0, .int .i64 50]) ?_ rfl ⟨?_, ?_⟩
      · simp [results, Tryz.results76, go_sem, supV, c0, f0]
      · rw [if_neg hno, (rd_no hno).1, (rd_no hno).2]
      · exact ((below_drewN HB.out _).setCell (Nat.le_refl _) _).setCell (Nat.le_refl _) _
theorem Read6_any (v : Value) (l : List UInt64) (w : World) (h : Words w v l) :
    Calls Tryz.prog 76 #[v] w fun e w' => e = .returned (.tuple #[supV (rdW l) (rdT l), .int .i64 (rdErr l)]) ∧ Below w.heap.size w w' := by
  by_cases hl : l.length = 8
  · rw [rdErr, if_pos hl]; exact Read6_eight v l w h hl
  · have hno : ¬ ReadOk l := fun hr => hl (readOk_len hr)
    rw [rdErr, if_neg hl, (rd_no hno).1, (rd_no hno).2]; exact Read6_bad v l w h hl
end Go.Proofs.YtbfmdbeeiicabaaGreat
namespace Go.Proofs.YtbfmdbeeiicabaaGreat
open Go.RowKit L02 L05 L06
set_option maxHeartbeats 600000 in
theorem Check6R_any (W T : Int) (w : World) : Calls Tryz.prog 137 #[supV W T] w fun e w' => e = .returned (.int .i64 (supErr W T)) ∧ Below w.heap.size w w' := by
  unfold supV
  by_cases hs : SizeOk W
  · have HS := Lib.hid hs; clear hs
    go_enter Tryz.func137, Tryz.ntmps137
    go_wp2_with (go_at_call 123; refine (SizeR_any _ true (decide_eq_true HS.out).symm _).mono ?_; rintro e w' ⟨rfl, rfl⟩)
    all_goals
      go_ret
      refine ⟨ret_int ?_, (Below.refl _ _).alloc (Nat.le_refl _) _⟩
      first
      | exact (if_pos ⟨HS.out, by omega, by omega⟩).symm
      | exact (if_neg (fun h => by have := h.2; omega)).symm
  · have HS := Lib.hid hs; clear hs
    go_enter Tryz.func137, Tryz.ntmps137
    go_wp2_with (go_at_call 123; refine (SizeR_any _ false (decide_eq_false HS.out).symm _).mono ?_; rintro e w' ⟨rfl, rfl⟩)
    go_ret
    exact ⟨ret_int (if_neg (fun h => HS.out h.1)).symm, (Below.refl _ _).alloc (Nat.le_refl _) _⟩
set_option maxHeartbeats 1000000 in
theorem Written_any (W T : Int) (w : World) (h : SupOk W T) : Calls Tryz.prog 138 #[supV W T] w fun e w' => ∃ v, e = .returned v ∧ OwnW w' w.heap.size 40 v (wordsOf W T) ∧ Below w.heap.size w w' := by
  have h1 := h.1.1; have h2 := h.1.2.1; have h3 := h.2.1; have h4 := h.2.2
  have hu1 := u_nat (n := W) (by omega) (by omega)
  have hu2 := u_nat (n := T) (by omega) (by omega)
  have HU1 := Lib.hid hu1; have HU2 := Lib.hid hu2; clear hu1 hu2 h
  unfold supV
  go_enter Tryz.func138, Tryz.ntmps138
  go_wp2_with fail
  refine calls_gen (fun W' => W'.ownsRow w.heap.size 40 1 (.slice (some ⟨w.heap.size + 1, 0, none⟩) 7 7) 7 ((body W T).map u64) ∧ Below w.heap.size w W') ⟨?_, ((Below.refl _ w).alloc (Nat.le_refl _) _).alloc (by simp) _⟩ ?_
  · have := World.ownsRow_lit (base := w.heap.size) (size := 1) (e := 40) (w.alloc (.cells #[.int .i64 W, .int .i64 T] 85)) #[.int .u64 32777959566500194, .int .u64 1, .int .u64 W, .int .u64 T, .int .u64 0, .int .u64 0, .int .u64 0] 7 (by simp) (by simp [maxLen]) rfl
    rw [alloc_sz] at this
    have e : (body W T).map u64 = [.int .u64 32777959566500194, .int .u64 1, .int .u64 W, .int .u64 T, .int .u64 0, .int .u64 0, .int .u64 0] := by simp [body, u64, HU1.out, HU2.out, magic]
    rw [e]
    exact this
  rintro w1 ⟨o1, B⟩
  refine (SumR_any _ _ _ (OwnW.rd (OwnW.of o1 rfl)) (by simp [body])).mono ?_
  rintro e w2 ⟨rfl, b⟩
  replace o1 := own_below o1 b; replace B := B.trans (b.mono B.size); clear b
  have HO := Lib.hid o1; have HB := Lib.hid B; clear o1 B
  obtain ⟨S, hS⟩ : ∃ S, S = sum (body W T) := ⟨_, rfl⟩
  rw [← hS]
  have HS := Lib.hid hS; clear hS
  go_wp2_with (at_builtin; refine wpList_append (by rfl) rfl rfl rfl Tryz.underlying22 info_u64 rfl (by omega) (by exact own_below HO.out ((Below.refl _ _).alloc (Nat.le_refl _) _)) (by exact lit_rd) (by simp [Value.oneCell']) (by omega) (by omega) (by exact HB.out.alloc HB.out.size _) (Nat.le_refl _) ?_; intro v1 w3 o3 B3 g3; clear g3)
  go_ret
  refine ⟨v1, rfl, OwnW.of o3 ?_, B3⟩
  rw [wordsOf, List.map_append, HS.out]; rfl
set_option maxHeartbeats 2000000 in
theorem Read6R_any (v : Value) (l : List UInt64) (w : World) (h : Words w v l) (hmax : l.length ≤ 2100) :
    Calls Tryz.prog 130 #[v] w fun e w' => e = .returned (.tuple #[supV (rdW l) (rdT l), .int .i64 (rdErr l)]) ∧ Below w.heap.size w w' := by
  have l1 := Rd.len h Tryz.underlying22
  by_cases hl : l.length = 8
  · rw [rdErr, if_pos hl]
    obtain ⟨E, hE⟩ : ∃ E, E = (if ReadOk l then (0 : Int) else 50) := ⟨_, rfl⟩
    rw [← hE]
    have HE := Lib.hid hE; clear hE
    have hlt2 : (2 : Int) < l.length := by omega
    have hlt3 : (3 : Int) < l.length := by omega
    obtain ⟨ad2, x2, i2, c2, e2⟩ := h.atI Tryz.underlying22 one_u64 (k := (2 : Int)) (by omega) hlt2
    obtain ⟨ad3, x3, i3, c3, e3⟩ := h.atI Tryz.underlying22 one_u64 (k := (3 : Int)) (by omega) hlt3
    have hA : at2 l = (x2.toNat : Int) := by unfold at2; rw [List.getD_eq_getElem?_getD, show l[2]? = some x2 from e2.out]; rfl
    have hT : at3 l = (x3.toNat : Int) := by unfold at3; rw [List.getD_eq_getElem?_getD, show l[3]? = some x3 from e3.out]; rfl
    rw [hl] at l1
    obtain ⟨A, hAA⟩ : ∃ A, A = (x2.toNat : Int) := ⟨_, rfl⟩
    obtain ⟨T, hTT⟩ : ∃ T, T = (x3.toNat : Int) := ⟨_, rfl⟩
    have hA0 : 0 ≤ A := by omega
    have hT0 : 0 ≤ T := by omega
    rw [← hAA] at hA c2; rw [← hTT] at hT c3
    have d2 : ∀ o, (w.alloc o).cell? ad2 = some (.int .u64 A) := fun o => (World.cell?_alloc_lt w o ad2 (World.block_lt_of_cell? w _ c2)).trans c2
    have d3 : ∀ o, (w.alloc o).cell? ad3 = some (.int .u64 T) := fun o => (World.cell?_alloc_lt w o ad3 (World.block_lt_of_cell? w _ c3)).trans c3
    have H := Lib.hid h; have HA := Lib.hid hA; have HT := Lib.hid hT
    clear h hlt2 hlt3 hA hT hAA hTT e2 e3
    by_cases hbig : 1000000 < A ∨ 1000000 < T
    · have hno : ¬ ReadOk l := by
        rintro ⟨⟨⟨_, h2, _⟩, _, h5⟩, _⟩
        rw [HA.out] at h2; rw [HT.out] at h5; omega
      have hE := HE.out
      rw [if_neg hno] at hE
      subst hE
      rw [(rd_no hno).1, (rd_no hno).2]
      clear hno
      rcases hbig with hb | hb
      · go_enter Tryz.func130, Tryz.ntmps130
        go_wp2
        refine bodyPost_ret (v := .tuple #[supV 0 0, .int .i64 50]) ?_ rfl ⟨rfl, ?_⟩
        · simp [results, Tryz.results130, go_sem, supV]
        · exact (Below.refl _ _).alloc (Nat.le_refl _) _
      · by_cases hb' : 1000000 < A
        all_goals
          go_enter Tryz.func130, Tryz.ntmps130
          go_wp2
          refine bodyPost_ret (v := .tuple #[supV 0 0, .int .i64 50]) ?_ rfl ⟨rfl, ?_⟩
          · simp [results, Tryz.results130, go_sem, supV]
          · exact (Below.refl _ _).alloc (Nat.le_refl _) _
    · have hb1 : A ≤ 1000000 := by omega
      have hb2 : T ≤ 1000000 := by omega
      clear hbig
      go_enter Tryz.func130, Tryz.ntmps130
      go_wp2
      refine wp_gen (fun W => W.heap[w.heap.size]? = some (.cells #[.int .i64 0, .int .i64 0] 85 (0, 0)) ∧ Below w.heap.size w W ∧ w.heap.size + 1 ≤ W.heap.size ∧ W.cell? ad2 = some (.int .u64 A) ∧ W.cell? ad3 = some (.int .u64 T))
        ⟨by simp only [alloc_heap, Array.getElem?_push]; simp, (Below.refl _ w).alloc (Nat.le_refl _) _, by simp, d2 _, d3 _⟩ ?_
      clear c2 c3 d2 d3
      rintro w1 ⟨g0, B, hz, c2, c3⟩
      have d2 : ∀ o, (w1.alloc o).cell? ad2 = some (.int .u64 A) := fun o => (World.cell?_alloc_lt w1 o ad2 (World.block_lt_of_cell? w1 _ c2)).trans c2
      have d3 : ∀ o, (w1.alloc o).cell? ad3 = some (.int .u64 T) := fun o => (World.cell?_alloc_lt w1 o ad3 (World.block_lt_of_cell? w1 _ c3)).trans c3
      have G0 := Lib.hid g0; have HB := Lib.hid B; clear g0 B
      go_region
      clear c2 c3 d2 d3
      go_wp2_with fail
      refine calls_gen (fun W => W.heap[w.heap.size]? = some (.cells #[.int .i64 0, .int .i64 0] 85 (0, 0)) ∧ W.heap[w1.heap.size]? = some (.cells #[.int .i64 A, .int .i64 T] 85 (0, 0)) ∧ Below w.heap.size w W ∧ w1.heap.size + 1 ≤ W.heap.size)
        ⟨blk_old (w := w1) G0.out _, blk_new w1 _, (HB.out.alloc HB.out.size _).drew, by simp⟩ ?_
      rintro w2 ⟨g0, g1, B, hz2⟩
      refine (Check6R_any A T _).mono ?_
      by_cases hok : SupOk A T
      · have hrd : ReadOk l ↔ wordsOf A T = l := by
          unfold ReadOk; rw [HA.out, HT.out]
          exact ⟨fun h => h.2.symm, fun h => ⟨hok, h.symm⟩⟩
        have HRD := Lib.hid hrd
        rw [show supErr A T = 0 from if_pos hok]
        have HOK := Lib.hid hok
        clear hrd hok
        rintro e w3 ⟨rfl, b⟩
        replace g0 := blk_below g0 b; replace g1 := blk_below g1 b; replace B := B.trans (b.mono B.size)
        have h2 : Words w3 v l := H.out.below B
        have c1 := blk_cell g1
        have hz3 := b.size
        have G0 := Lib.hid g0; have G1 := Lib.hid g1; have HB := Lib.hid B; have H2 := Lib.hid h2
        clear g0 g1 b B h2
        go_wp2_with fail
        refine (Written_any A T _ HOK.out).mono ?_
        rintro e w4 ⟨x, rfl, o, b⟩
        have G0' := Lib.hid (blk_below G0.out b); have G1' := Lib.hid (blk_below G1.out b); have HB' := Lib.hid (HB.out.trans (b.mono HB.out.size)); have H2' := Lib.hid (H2.out.below b)
        have r := o.rd
        clear o b c1
        go_wp2_with fail
        refine (Same_any _ _ _ _ _ r H2'.out).mono ?_
        obtain ⟨dB, hdB⟩ : ∃ dB, dB = same (wordsOf A T) l := ⟨_, rfl⟩
        rw [← hdB]
        have HDB := Lib.hid hdB
        clear hdB r
        rintro e w5 ⟨rfl, q⟩
        have b := q.below
        have z0 := blk_cell (blk_below G0'.out b); have zf := blk_free (blk_below G0'.out b); have z1 := blk_cell (blk_below G1'.out b)
        have HB5 := Lib.hid (HB'.out.trans (b.mono HB'.out.size))
        clear b q
        cases dB
        all_goals go_wp2
        · have hno : ¬ ReadOk l := fun hr => by
            have := HRD.out.1 hr
            have h6 := HDB.out
            rw [this, same_refl] at h6; cases h6
          rw [HE.out, if_neg hno, (rd_no hno).1, (rd_no hno).2]
          refine bodyPost_ret (v := .tuple #[supV 0 0, .int .i64 50]) ?_ rfl ⟨rfl, ?_⟩
          · simp [results, Tryz.results130, go_sem, supV, z0, zf]
          · exact (HB5.out.setCell (Nat.le_refl _) _).setCell (Nat.le_refl _) _
        · have hyes : ReadOk l := HRD.out.2 (by have := HDB.out.symm; simpa [same] using this)
          rw [HE.out, if_pos hyes, rdW, if_pos hyes, rdT, if_pos hyes, HA.out, HT.out]
          refine bodyPost_ret (v := .tuple #[supV A T, .int .i64 0]) ?_ rfl ⟨rfl, ?_⟩
          · simp [results, Tryz.results130, go_sem, supV, z0, zf]
          · exact (HB5.out.setCell (Nat.le_refl _) _).setCell (Nat.le_refl _) _
      · have hno : ¬ ReadOk l := fun hr => hok (by have := hr.1; rwa [HA.out, HT.out] at this)
        rw [show supErr A T = 8 from if_neg hok]
        have HNO := Lib.hid hno
        clear hno hok
        rintro e w3 ⟨rfl, b⟩
        have z0 := blk_cell (blk_below g0 b); have zf := blk_free (blk_below g0 b)
        have HB5 := Lib.hid (B.trans (b.mono B.size))
        clear g0 g1 b B
        go_wp2
        rw [HE.out, if_neg HNO.out, (rd_no HNO.out).1, (rd_no HNO.out).2]
        refine bodyPost_ret (v := .tuple #[supV 0 0, .int .i64 50]) ?_ rfl ⟨rfl, ?_⟩
        · simp [results, Tryz.results130, go_sem, supV, z0, zf]
        · exact (HB5.out.setCell (Nat.le_refl _) _).setCell (Nat.le_refl _) _
  · have hno : ¬ ReadOk l := fun hr => hl (readOk_len hr)
    rw [rdErr, if_neg hl, (rd_no hno).1, (rd_no hno).2]
    have hne : ((l.length : Int) != 8) = true := by simp; omega
    clear h hl hno
    go_enter Tryz.func130, Tryz.ntmps130
    go_wp2
    refine bodyPost_ret (v := .tuple #[supV 0 0, .int .i64 2]) ?_ rfl ⟨rfl, ?_⟩
    · simp [results, Tryz.results130, go_sem, supV]
    · exact (Below.refl _ _).alloc (Nat.le_refl _) _
end Go.Proofs.YtbfmdbeeiicabaaGreat
namespace Go.Proofs.YtbfmdbeeiicabaaGreat
open Go.RowKit L02 L05 L06 L07
theorem starts_any (w : World) : Calls Tryz.prog 75 #[] w fun e w' => e = .returned (.agg #[.int .i64 0, .int .i64 8]) ∧ Below w.heap.size w w' := by
  have B : Below w.heap.size w w := Below.refl _ _
  go_enter Tryz.func75, Tryz.ntmps75
  go_upto_region 1 with (fail)
  refine wp_gen (fun Wv => Bx Wv (w.heap.size) (143) (#[.int .i64 0, .int .i64 0]) ∧ Below w.heap.size w Wv) ⟨((Bx.at_ (by simp))), ((Below.refl _ w).alloc (by simp <;> omega) _)⟩ ?_
  rintro w' ⟨g1, b⟩
  replace B := B.trans (b.mono B.size); clear b
  have c_g1 := g1.cell; have f_g1 := g1.free; have a_g1 := fun o => (g1.alloc o).cell; have d_g1 := fun o o2 => ((g1.alloc o).alloc o2).cell; have e_g1 := fun o => (g1.alloc o).free
  go_wp2
  refine bodyPost_ret (v := .agg #[.int .i64 0, .int .i64 8]) (by simp [results, Tryz.results75, go_sem, c_g1, f_g1, a_g1, e_g1]) rfl ?_
  exact ⟨rfl, by (repeat (first | refine Below.setCell ?_ (by first | exact Nat.le_refl _ | (simp <;> omega)) _ | refine Below.alloc ?_ (by first | exact B.size | (have := B.size; simp <;> omega)) _)); exact B⟩
theorem Read6_r (v : Value) (l : List UInt64) (W T r : Int) (hW : W = rdW l) (hT : T = rdT l) (hr : r = rdErr l) (w : World) (h : Words w v l) :
    Calls Tryz.prog 76 #[v] w fun e w' => e = .returned (.tuple #[.agg #[.int .i64 W, .int .i64 T], .int .i64 r]) ∧ Below w.heap.size w w' := by subst hW hT hr; exact Read6_any v l w h
theorem Read6R_r (v : Value) (l : List UInt64) (hmax : l.length ≤ 2100) (W T r : Int) (hW : W = rdW l) (hT : T = rdT l) (hr : r = rdErr l) (w : World) (h : Words w v l) :
    Calls Tryz.prog 130 #[v] w fun e w' => e = .returned (.tuple #[.agg #[.int .i64 W, .int .i64 T], .int .i64 r]) ∧ Below w.heap.size w w' := by subst hW hT hr; exact Read6R_any v l w h hmax
theorem good_rd {n : Nat} {l : List UInt64} (hl : l.length = 8) : CopyOk n l ↔ rdErr l = 0 ∧ rdW l = (n : Int) := by
  unfold CopyOk rdErr rdW
  rw [if_pos hl]
  by_cases h : ReadOk l
  · simp [h]
  · simp [h]
theorem rd_ok3 {l : List UInt64} (h : ReadOk l) : rdW l = at2 l ∧ rdT l = at3 l := ⟨if_pos h, if_pos h⟩
theorem index_two (a b : Int) (W : World) : (Instr.index 143 (.agg #[.int .i64 a, .int .i64 b]) (.int .i64 0)).run Tryz.prog W = .ok (.int .i64 a) W ∧ (Instr.index 143 (.agg #[.int .i64 a, .int .i64 b]) (.int .i64 1)).run Tryz.prog W = .ok (.int .i64 b) W := by
  obtain ⟨i, hi, hsz⟩ := Option.map_eq_some_iff.1 one_int
  constructor <;> simp [Instr.index, run_underlying Tryz.underlying143, asIntOf, sizeOf, typeInfo, go_sem, hi, hsz]
def fnd (a0 t0 a1 t1 : Int) : Nat → Array Value
  | 0 => #[.int .i64 0, .int .i64 0, .int .i64 0, .int .i64 0]
  | 1 => #[.int .i64 a0, .int .i64 t0, .int .i64 0, .int .i64 0]
  | _ => #[.int .i64 a0, .int .i64 t0, .int .i64 a1, .int .i64 t1]
def rgt (b0 b1 : Bool) : Nat → Array Value
  | 0 => #[.bool false, .bool false]
  | 1 => #[.bool b0, .bool false]
  | _ => #[.bool b0, .bool b1]
/-- what a copy says -/
theorem copy_cases {n : Nat} {l : List UInt64} (hl : l.length = 8) (b : Bool) (hb : b = decide (CopyOk n l)) : (rdErr l = 0 ∧ (rdW l == (n : Int)) = b) ∨ ((rdErr l == 0) = false ∧ b = false) := by
  by_cases h : rdErr l = 0
  · refine .inl ⟨h, ?_⟩
    rw [hb]
    by_cases h2 : rdW l = (n : Int)
    · rw [decide_eq_true ((good_rd hl).2 ⟨h, h2⟩), beq_iff_eq]; exact h2
    · rw [decide_eq_false (fun hg => h2 ((good_rd hl).1 hg).2), beq_eq_false_iff_ne]; exact h2
  · refine .inr ⟨by rw [beq_eq_false_iff_ne]; exact h, ?_⟩
    rw [hb]; exact decide_eq_false (fun hg => h ((good_rd hl).1 hg).1)
set_option maxRecDepth 100000 in
set_option maxHeartbeats 4000000 in
theorem TRead_any (v : Value) (m : List UInt64) (W T : Int) (b0 b1 : Bool) (r : Int) (hW : W = sW m) (hT : T = sT m) (h0 : b0 = is0 m) (h1 : b1 = is1 m) (hr : r = rErr m) (w : World) (h : Words w v m) :
    Calls Tryz.prog 37 #[v] w fun e w' => e = .returned (.tuple #[.agg #[.int .i64 W, .int .i64 T], .agg #[.bool b0, .bool b1], .int .i64 r]) ∧ Below w.heap.size w w' := by
  have B : Below w.heap.size w w := Below.refl _ _
  have CT := fun w h => Check_any v m w h
  by_cases hs : SizeOk m.length
  rotate_left
  · rw [chk_no hs] at CT
    obtain rfl : W = 0 := by rw [hW, sW, if_neg (by rw [rErr_no hs]; omega)]
    obtain rfl : T = 0 := by rw [hT, sT, if_neg (by rw [rErr_no hs]; omega)]
    obtain rfl : b0 = false := by rw [h0, is0_no hs]
    obtain rfl : b1 = false := by rw [h1, is1_no hs]
    obtain rfl : r = 8 := by rw [hr, rErr_no hs]
    have HC := Lib.hid CT; have H := Lib.hid h; clear CT h hs hW hT h0 h1 hr
    go_enter Tryz.func37, Tryz.ntmps37
    go_upto_region 1 with (fail)
    refine wp_gen (fun Wv => Bx Wv (w.heap.size) (85) (#[.int .i64 0, .int .i64 0]) ∧ Bx Wv (w.heap.size + 1) (86) (#[.bool false, .bool false]) ∧ Below w.heap.size w Wv) ⟨(((Bx.at_ (by simp)).alloc _)), ((Bx.at_ (by simp))), (((Below.refl _ w).alloc (by simp <;> omega) _).alloc (by simp <;> omega) _)⟩ ?_
    rintro w' ⟨g2, g3, b⟩
    replace B := B.trans (b.mono B.size); clear b
    have c_g2 := g2.cell; have f_g2 := g2.free; have a_g2 := fun o => (g2.alloc o).cell; have d_g2 := fun o o2 => ((g2.alloc o).alloc o2).cell; have e_g2 := fun o => (g2.alloc o).free
    have c_g3 := g3.cell; have f_g3 := g3.free; have a_g3 := fun o => (g3.alloc o).cell; have d_g3 := fun o o2 => ((g3.alloc o).alloc o2).cell; have e_g3 := fun o => (g3.alloc o).free
    go_wp2_with fail
    refine (HC.out _ (H.out.below B)).mono ?_
    rintro e w' ⟨rfl, rfl⟩
    go_wp2
    refine bodyPost_ret (v := .tuple #[.agg #[.int .i64 0, .int .i64 0], .agg #[.bool false, .bool false], .int .i64 8]) (by simp [results, Tryz.results37, go_sem, c_g2, f_g2, a_g2, e_g2, c_g3, f_g3, a_g3, e_g3]) rfl ?_
    exact ⟨rfl, by (repeat (first | refine Below.setCell ?_ (by first | exact Nat.le_refl _ | (simp <;> omega)) _ | refine Below.alloc ?_ (by first | exact B.size | (have := B.size; simp <;> omega)) _)); exact B⟩
  rw [chk_ok hs] at CT
  have hn := hs.1
  obtain ⟨v0, sl0, hv0⟩ := h.cut (P := Tryz.prog) Tryz.underlying22 one_u64 (lo := 0) (hi := 8) (by omega) (by omega) (by omega)
  obtain ⟨v1, sl1, hv1⟩ := h.cut (P := Tryz.prog) Tryz.underlying22 one_u64 (lo := 8) (hi := 16) (by omega) (by omega) (by omega)
  have hv0' : Words w v0 (c0 m) := hv0
  have hv1' : Words w v1 (c1 m) := hv1
  have l1 := Rd.len h Tryz.underlying22
  obtain ⟨n, hnn⟩ : ∃ n, n = m.length := ⟨_, rfl⟩
  rw [← hnn] at l1
  obtain ⟨a0, ha0⟩ : ∃ x, x = rdW (c0 m) := ⟨_, rfl⟩
  obtain ⟨t0, ht0⟩ : ∃ x, x = rdT (c0 m) := ⟨_, rfl⟩
  obtain ⟨e0, he0⟩ : ∃ x, x = rdErr (c0 m) := ⟨_, rfl⟩
  obtain ⟨a1, ha1⟩ : ∃ x, x = rdW (c1 m) := ⟨_, rfl⟩
  obtain ⟨t1, ht1⟩ : ∃ x, x = rdT (c1 m) := ⟨_, rfl⟩
  obtain ⟨e1, he1⟩ : ∃ x, x = rdErr (c1 m) := ⟨_, rfl⟩
  have R0 := Lib.hid (fun w h => Read6_r v0 (c0 m) a0 t0 e0 ha0 ht0 he0 w h)
  have R1 := Lib.hid (fun w h => Read6_r v1 (c1 m) a1 t1 e1 ha1 ht1 he1 w h)
  have K0 : (e0 = 0 ∧ (a0 == (n : Int)) = b0) ∨ ((e0 == 0) = false ∧ b0 = false) := by rw [he0, ha0, hnn]; exact copy_cases (c0_len hs) b0 (by rw [h0, is0_good hs])
  have K1 : (e1 = 0 ∧ (a1 == (n : Int)) = b1) ∨ ((e1 == 0) = false ∧ b1 = false) := by rw [he1, ha1, hnn]; exact copy_cases (c1_len hs) b1 (by rw [h1, is1_good hs])
  -- what comes out
  have F0 : b0 = true → W = a0 ∧ T = t0 ∧ r = 0 := by
    intro h
    have hi : is0 m = true := by rw [← h0]; exact h
    have hr0 := rErr_mk hs (.inl hi)
    have hg : CopyOk m.length (c0 m) := (of_decide_eq_true hi).2
    have ho : one m = c0 m := if_pos hi
    exact ⟨by rw [hW, sW, if_pos hr0, ha0, (rd_ok3 hg.1).1, hg.2], by rw [hT, sT, if_pos hr0, ht0, (rd_ok3 hg.1).2, ho], by rw [hr, hr0]⟩
  have F1 : b0 = false → b1 = true → W = a1 ∧ T = t1 ∧ r = 0 := by
    intro h h'
    have hi : is1 m = true := by rw [← h1]; exact h'
    have hi0 : is0 m = false := by rw [← h0]; exact h
    have hr0 := rErr_mk hs (.inr hi)
    have hg : CopyOk m.length (c1 m) := (of_decide_eq_true hi).2
    have ho : one m = c1 m := if_neg (by simp [hi0])
    exact ⟨by rw [hW, sW, if_pos hr0, ha1, (rd_ok3 hg.1).1, hg.2], by rw [hT, sT, if_pos hr0, ht1, (rd_ok3 hg.1).2, ho], by rw [hr, hr0]⟩
  have F2 : b0 = false → b1 = false → W = 0 ∧ T = 0 ∧ r = 50 := by
    intro h h'
    have hr0 := rErr_50 hs (by rw [← h0]; exact h) (by rw [← h1]; exact h')
    exact ⟨by rw [hW, sW, if_neg (by rw [hr0]; omega)], by rw [hT, sT, if_neg (by rw [hr0]; omega)], by rw [hr, hr0]⟩
  have FF := Lib.hid (And.intro F0 (And.intro F1 F2))
  have KK := Lib.hid (And.intro K0 K1)
  have HC := Lib.hid CT; have H := Lib.hid h; have HV0 := Lib.hid hv0'; have HV1 := Lib.hid hv1'
  clear CT h hs hW hT h0 h1 hr hv0 hv1 hv0' hv1' ha0 ht0 he0 ha1 ht1 he1 F0 F1 F2 K0 K1 hn hnn
  go_enter Tryz.func37, Tryz.ntmps37
  go_upto_region 1 with (fail)
  refine wp_gen (fun Wv => Bx Wv (w.heap.size) (85) (#[.int .i64 0, .int .i64 0]) ∧ Bx Wv (w.heap.size + 1) (86) (#[.bool false, .bool false]) ∧ Below w.heap.size w Wv) ⟨(((Bx.at_ (by simp)).alloc _)), ((Bx.at_ (by simp))), (((Below.refl _ w).alloc (by simp <;> omega) _).alloc (by simp <;> omega) _)⟩ ?_
  rintro wa1 ⟨g2, g3, b⟩
  replace B := B.trans (b.mono B.size); clear b
  have c_g2 := g2.cell; have f_g2 := g2.free; have a_g2 := fun o => (g2.alloc o).cell; have d_g2 := fun o o2 => ((g2.alloc o).alloc o2).cell; have e_g2 := fun o => (g2.alloc o).free
  have c_g3 := g3.cell; have f_g3 := g3.free; have a_g3 := fun o => (g3.alloc o).cell; have d_g3 := fun o o2 => ((g3.alloc o).alloc o2).cell; have e_g3 := fun o => (g3.alloc o).free
  go_wp2_with fail
  refine (HC.out _ (H.out.below B)).mono ?_
  rintro e w' ⟨rfl, rfl⟩
  have hz1 := B.size
  have d2 := g2.lt; have d3 := g3.lt
  go_upto_region 6 with (fail)
  refine wp_gen (fun Wv => Bx Wv (wa1.heap.size) (142) (fnd a0 t0 a1 t1 0) ∧ Bx Wv (wa1.heap.size + 1) (86) (rgt b0 b1 0) ∧ Below wa1.heap.size wa1 Wv) ⟨(((Bx.at_ (by simp)).alloc _)), ((Bx.at_ (by simp))), (((Below.refl _ wa1).alloc (by simp <;> omega) _).alloc (by simp <;> omega) _)⟩ ?_
  rintro wa2 ⟨g6, g7, b⟩
  try clear c_g2 f_g2 a_g2 d_g2 e_g2
  replace g2 := g2.below b; have c_g2 := g2.cell; have f_g2 := g2.free; have a_g2 := fun o => (g2.alloc o).cell; have d_g2 := fun o o2 => ((g2.alloc o).alloc o2).cell; have e_g2 := fun o => (g2.alloc o).free; try clear c_g3 f_g3 a_g3 d_g3 e_g3
  replace g3 := g3.below b; have c_g3 := g3.cell; have f_g3 := g3.free; have a_g3 := fun o => (g3.alloc o).cell; have d_g3 := fun o o2 => ((g3.alloc o).alloc o2).cell; have e_g3 := fun o => (g3.alloc o).free; replace B := B.trans (b.mono B.size); clear b
  have c_g6 := g6.cell; have f_g6 := g6.free; have a_g6 := fun o => (g6.alloc o).cell; have d_g6 := fun o o2 => ((g6.alloc o).alloc o2).cell; have e_g6 := fun o => (g6.alloc o).free
  have c_g7 := g7.cell; have f_g7 := g7.free; have a_g7 := fun o => (g7.alloc o).cell; have d_g7 := fun o o2 => ((g7.alloc o).alloc o2).cell; have e_g7 := fun o => (g7.alloc o).free
  obtain ⟨p2, hp2⟩ : ∃ p, p = w.heap.size := ⟨_, rfl⟩
  obtain ⟨p6, hp6⟩ : ∃ p, p = wa1.heap.size := ⟨_, rfl⟩
  obtain ⟨p3, hp3⟩ : ∃ p, p = p2 + 1 := ⟨_, rfl⟩
  obtain ⟨p7, hp7⟩ : ∃ p, p = p6 + 1 := ⟨_, rfl⟩
  have hB6 : w.heap.size ≤ p6 := by omega
  have hB7 : w.heap.size ≤ p7 := by omega
  have hB2 : w.heap.size ≤ p2 := by omega
  have hB3 : w.heap.size ≤ p3 := by omega
  have q1 : p2 < p6 := by omega
  have q2 : p3 < p6 := by omega
  have q3 : p2 ≠ p3 := by omega
  rw [← hp2] at g2 g3 ⊢
  rw [← hp3] at g3 ⊢
  rw [← hp6] at g6 g7 ⊢
  rw [← hp7] at g7 ⊢
  have q4 : p6 < p7 := by omega
  clear hp2 hp3 hp6 d2 d3 hz1
  clear hp7
  clear c_g2 f_g2 a_g2 d_g2 e_g2 c_g3 f_g3 a_g3 d_g3 e_g3 c_g6 f_g6 a_g6 d_g6 e_g6 c_g7 f_g7 a_g7 d_g7 e_g7
  have c_g2 := 0; have f_g2 := 0; have a_g2 := 0; have d_g2 := 0; have e_g2 := 0
  have c_g3 := 0; have f_g3 := 0; have a_g3 := 0; have d_g3 := 0; have e_g3 := 0
  have c_g6 := 0; have f_g6 := 0; have a_g6 := 0; have d_g6 := 0; have e_g6 := 0
  have c_g7 := 0; have f_g7 := 0; have a_g7 := 0; have d_g7 := 0; have e_g7 := 0
  go_wp2_with fail
  refine (starts_any _).mono ?_
  rintro e wa3 ⟨rfl, b⟩
  try clear c_g2 f_g2 a_g2 d_g2 e_g2
  replace g2 := g2.below b; have c_g2 := g2.cell; have f_g2 := g2.free; have a_g2 := fun o => (g2.alloc o).cell; have d_g2 := fun o o2 => ((g2.alloc o).alloc o2).cell; have e_g2 := fun o => (g2.alloc o).free; try clear c_g3 f_g3 a_g3 d_g3 e_g3
  replace g3 := g3.below b; have c_g3 := g3.cell; have f_g3 := g3.free; have a_g3 := fun o => (g3.alloc o).cell; have d_g3 := fun o o2 => ((g3.alloc o).alloc o2).cell; have e_g3 := fun o => (g3.alloc o).free; try clear c_g6 f_g6 a_g6 d_g6 e_g6
  replace g6 := g6.below b; have c_g6 := g6.cell; have f_g6 := g6.free; have a_g6 := fun o => (g6.alloc o).cell; have d_g6 := fun o o2 => ((g6.alloc o).alloc o2).cell; have e_g6 := fun o => (g6.alloc o).free; try clear c_g7 f_g7 a_g7 d_g7 e_g7
  replace g7 := g7.below b; have c_g7 := g7.cell; have f_g7 := g7.free; have a_g7 := fun o => (g7.alloc o).cell; have d_g7 := fun o o2 => ((g7.alloc o).alloc o2).cell; have e_g7 := fun o => (g7.alloc o).free; replace B := B.trans (b.mono B.size); clear b
  have HH := Lib.hid (And.intro g2 (And.intro g3 (And.intro g6 (And.intro g7 B))))
  clear c_g2 f_g2 a_g2 d_g2 e_g2 c_g3 f_g3 a_g3 d_g3 e_g3 c_g6 f_g6 a_g6 d_g6 e_g6 c_g7 f_g7 a_g7 d_g7 e_g7 g2 g3 g6 g7 B
  have hE6 : p6 < wa3.heap.size := HH.out.2.2.1.lt
  clear hE6
  go_wp2
  go_loopg [20] 2 (fun g i wr => ∃ k : Nat, k ≤ 2 ∧ g = 2 - k ∧ i = .int .i64 k ∧ Hid (Bx wr p2 85 #[.int .i64 0, .int .i64 0] ∧ Bx wr p3 86 #[.bool false, .bool false] ∧ Bx wr p6 142 (fnd a0 t0 a1 t1 k) ∧ Bx wr p7 86 (rgt b0 b1 k) ∧ Below w.heap.size w wr))
  case atStart => exact ⟨0, by omega, by omega, rfl, HH⟩
  case round =>
    clear HH
    obtain ⟨k, hk, rfl, rfl, hh⟩ := hrel
    have ix0 := fun W => (index_two 0 8 W).1
    have ix1 := fun W => (index_two 0 8 W).2
    have hk3 : k = 0 ∨ k = 1 ∨ k = 2 := by omega
    clear hk
    rcases hk3 with rfl | rfl | rfl
    · obtain ⟨G2, G3, G6, G7, B⟩ := hh.out
      go_wp2_with fail
      refine (R0.out _ (HV0.out.below B)).mono ?_
      rintro e wx ⟨rfl, b⟩
      have g2 := G2.below b; have g3 := G3.below b; have g6 := G6.below b; have g7 := G7.below b
      replace B := B.trans (b.mono B.size)
      clear b G2 G3 G6 G7 hh
      go_upto_region 10 with (fail)
      refine wp_gen (fun V => Bx V wx.heap.size 85 #[.int .i64 a0, .int .i64 t0] ∧ Below wx.heap.size wx V) ⟨Bx.at_ (by simp), (Below.refl _ _).alloc (Nat.le_refl _) _⟩ ?_
      rintro wy ⟨g10, b⟩
      have d2 := g2.lt; have d3 := g3.lt; have d6 := g6.lt; have d7 := g7.lt
      replace g2 := g2.below b; replace g3 := g3.below b; replace g6 := g6.below b; replace g7 := g7.below b
      replace B := B.trans (b.mono B.size)
      clear b
      obtain ⟨p10, hp10⟩ : ∃ p, p = wx.heap.size := ⟨_, rfl⟩
      rw [← hp10] at g10 d2 d3 d6 d7 ⊢
      clear hp10
      obtain ⟨L, hL⟩ : ∃ L, L = [Bk.mk p6 142 13 (fnd a0 t0 a1 t1 0) (fnd a0 t0 a1 t1 1), Bk.mk p7 86 15 (rgt b0 b1 0) (rgt b0 b1 1), Bk.mk p10 85 13 (#[.int .i64 a0, .int .i64 t0]) (#[.int .i64 a0, .int .i64 t0]), Bk.mk p2 85 13 (#[.int .i64 0, .int .i64 0]) (#[.int .i64 0, .int .i64 0]), Bk.mk p3 86 13 (#[.bool false, .bool false]) (#[.bool false, .bool false])] := ⟨_, rfl⟩
      have ST : FBx w (w.heap.size) L (fun _ => false) (World.drew wy) := FBx.start B (by subst hL; exact List.forall_mem_cons.2 ⟨g6, List.forall_mem_cons.2 ⟨g7, List.forall_mem_cons.2 ⟨g10, List.forall_mem_cons.2 ⟨g2, List.forall_mem_cons.2 ⟨g3, fun _ h => by cases h⟩⟩⟩⟩⟩)
      have DP : Dep (FBx w (w.heap.size) L) [13, 15] := FBx.dep (by subst hL; simp)
      have kb2 := fun x : FXN (FBx w (w.heap.size) L) => FBx.cell (Bk.mk p10 85 13 (#[.int .i64 a0, .int .i64 t0]) (#[.int .i64 a0, .int .i64 t0])) (by subst hL; simp) rfl x
      dsimp only at kb2
      have kb3 := fun x : FXN (FBx w (w.heap.size) L) => FBx.cell (Bk.mk p2 85 13 (#[.int .i64 0, .int .i64 0]) (#[.int .i64 0, .int .i64 0])) (by subst hL; simp) rfl x
      dsimp only at kb3
      have kb4 := fun x : FXN (FBx w (w.heap.size) L) => FBx.cell (Bk.mk p3 86 13 (#[.bool false, .bool false]) (#[.bool false, .bool false])) (by subst hL; simp) rfl x
      dsimp only at kb4
      have S1 := FBx.stepRow (P := Tryz.prog) (w0 := w) (B := w.heap.size) (L := L) (k := 13) (Bk.mk p6 142 13 (fnd a0 t0 a1 t1 0) (fnd a0 t0 a1 t1 1)) (by subst hL; simp) hB6 rfl (q := 0) (cells := #[.int .i64 a0, .int .i64 t0]) (by simp [fnd, rgt]) (by simp [fnd, rgt]) (by simp [putL, fnd, rgt]) (by simp [putL, fnd, rgt]) (by subst hL; exact List.forall_mem_cons.2 ⟨.inl rfl, List.forall_mem_cons.2 ⟨.inr ⟨by show p7 ≠ p6; omega, .inl (by show (15 : Nat) ≠ 13; decide)⟩, List.forall_mem_cons.2 ⟨.inr ⟨by show p10 ≠ p6; omega, .inr rfl⟩, List.forall_mem_cons.2 ⟨.inr ⟨by show p2 ≠ p6; omega, .inr rfl⟩, List.forall_mem_cons.2 ⟨.inr ⟨by show p3 ≠ p6; omega, .inr rfl⟩, fun _ h => by cases h⟩⟩⟩⟩⟩) (ty := 85) (by kernel_rfl) (by simp [Value.oneCell'])
      dsimp only at S1
      have HS1 := Lib.hid S1; clear S1
      have S1 := FBx.step1 (P := Tryz.prog) (w0 := w) (B := w.heap.size) (L := L) (k := 15) (Bk.mk p7 86 15 (rgt b0 b1 0) (rgt b0 b1 1)) (by subst hL; simp) hB7 rfl (q := 0) (u := .bool b0) (u0 := .bool false) (u1 := .bool b0) rfl rfl (by simp [rgt, fnd]) (by simp [rgt, fnd]) (by subst hL; exact List.forall_mem_cons.2 ⟨.inr ⟨by show p6 ≠ p7; omega, .inl (by show (13 : Nat) ≠ 15; decide)⟩, List.forall_mem_cons.2 ⟨.inl rfl, List.forall_mem_cons.2 ⟨.inr ⟨by show p10 ≠ p7; omega, .inr rfl⟩, List.forall_mem_cons.2 ⟨.inr ⟨by show p2 ≠ p7; omega, .inr rfl⟩, List.forall_mem_cons.2 ⟨.inr ⟨by show p3 ≠ p7; omega, .inr rfl⟩, fun _ h => by cases h⟩⟩⟩⟩⟩) (ty := 4) (fun W u0 h1 h2 => store_bool (by kernel_rfl) W _ u0 _ h1 h2)
      dsimp only at S1
      have HS2 := Lib.hid S1; clear S1
      have HST := Lib.hid ST; clear ST; have HL := Lib.hid hL; clear hL
      haveI : Nonempty (FXN (FBx w (w.heap.size) L)) := ⟨⟨_, _, HST.out⟩⟩
      clear kb3 kb4 g2 g3 g6 g7 g10 B d2 d3 d6 d7
      rcases KK.out.1 with ⟨rfl, hq⟩ | ⟨hq, rfl⟩
      all_goals
        refine wp_region_N (FBx w (w.heap.size) L) [13, 15] DP (by kernel_rfl) (by kernel_rfl) (by kernel_rfl) HST.out ?_
        iterate 6 (refine wpN_read DP rfl (by decide) ?_; go_big_quiet_step (fail); refine wpQuiet_nil ?_)
        iterate 3 (first | (refine wpN_skip DP (by decide) rfl ?_; simp only [Act.put, List.setIfInBounds_toArray, List.set_cons_zero, List.set_cons_succ]) | (refine wpN_read DP rfl (by decide) ?_; go_big_quiet_step (fail); refine wpQuiet_nil ?_))
        first | (refine wpN_skip DP (by decide) rfl ?_; simp only [Act.put, List.setIfInBounds_toArray, List.set_cons_zero, List.set_cons_succ]) | (refine wpN_len DP rfl (by decide) rfl (fun W => l1 _ W) ?_; simp only [Act.put, List.setIfInBounds_toArray, List.set_cons_zero, List.set_cons_succ])
        iterate 1 (first | (refine wpN_skip DP (by decide) rfl ?_; simp only [Act.put, List.setIfInBounds_toArray, List.set_cons_zero, List.set_cons_succ]) | (refine wpN_read DP rfl (by decide) ?_; go_big_quiet_step (fail); refine wpQuiet_nil ?_))
        iterate 2 (refine wpN_read DP rfl (by decide) ?_; go_big_quiet_step (fail); refine wpQuiet_nil ?_)
        refine wpN_store DP 85 (.tmp 45) (.tmp 35) rfl rfl (p := .pointer (some ⟨p6, 0, none⟩)) (u := .agg #[.int .i64 a0, .int .i64 t0]) (by rfl) (by rfl) HS1.out ?_
        simp only [Act.put, List.setIfInBounds_toArray, List.set_cons_zero, List.set_cons_succ]
        iterate 1 (refine wpN_read DP rfl (by decide) ?_; go_big_quiet_step (fail); refine wpQuiet_nil ?_)
        refine wpN_store DP 4 (.tmp 46) (.tmp 44) rfl rfl (p := .pointer (some ⟨p7, 0, none⟩)) (u := _) (by rfl) (by rfl) HS2.out ?_
        simp only [Act.put, List.setIfInBounds_toArray, List.set_cons_zero, List.set_cons_succ]
        intro wz hd
        obtain ⟨B, hd⟩ := FBx.done hd
        rw [HL.out] at hd
        obtain ⟨g6, hd⟩ := List.forall_mem_cons.1 hd
        obtain ⟨g7, hd⟩ := List.forall_mem_cons.1 hd
        obtain ⟨g10, hd⟩ := List.forall_mem_cons.1 hd
        obtain ⟨g2, hd⟩ := List.forall_mem_cons.1 hd
        obtain ⟨g3, hd⟩ := List.forall_mem_cons.1 hd
        dsimp only at g6 g7 g10 g2 g3
        clear hd HST HL DP this
        have HH := Lib.hid (And.intro g2 (And.intro g3 (And.intro g6 (And.intro g7 B))))
        clear g2 g3 g6 g7 g10 B HS1 HS2
        go_wp2
        go_roundg (2 - 1)
        case measure => omega
        case rel => exact ⟨1, by omega, rfl, by go_num, HH⟩
    · obtain ⟨G2, G3, G6, G7, B⟩ := hh.out
      go_wp2_with fail
      refine (R1.out _ (HV1.out.below B)).mono ?_
      rintro e wx ⟨rfl, b⟩
      have g2 := G2.below b; have g3 := G3.below b; have g6 := G6.below b; have g7 := G7.below b
      replace B := B.trans (b.mono B.size)
      clear b G2 G3 G6 G7 hh
      go_upto_region 10 with (fail)
      refine wp_gen (fun V => Bx V wx.heap.size 85 #[.int .i64 a1, .int .i64 t1] ∧ Below wx.heap.size wx V) ⟨Bx.at_ (by simp), (Below.refl _ _).alloc (Nat.le_refl _) _⟩ ?_
      rintro wy ⟨g10, b⟩
      have d2 := g2.lt; have d3 := g3.lt; have d6 := g6.lt; have d7 := g7.lt
      replace g2 := g2.below b; replace g3 := g3.below b; replace g6 := g6.below b; replace g7 := g7.below b
      replace B := B.trans (b.mono B.size)
      clear b
      obtain ⟨p10, hp10⟩ : ∃ p, p = wx.heap.size := ⟨_, rfl⟩
      rw [← hp10] at g10 d2 d3 d6 d7 ⊢
      clear hp10
      obtain ⟨L, hL⟩ : ∃ L, L = [Bk.mk p6 142 13 (fnd a0 t0 a1 t1 1) (fnd a0 t0 a1 t1 2), Bk.mk p7 86 15 (rgt b0 b1 1) (rgt b0 b1 2), Bk.mk p10 85 13 (#[.int .i64 a1, .int .i64 t1]) (#[.int .i64 a1, .int .i64 t1]), Bk.mk p2 85 13 (#[.int .i64 0, .int .i64 0]) (#[.int .i64 0, .int .i64 0]), Bk.mk p3 86 13 (#[.bool false, .bool false]) (#[.bool false, .bool false])] := ⟨_, rfl⟩
      have ST : FBx w (w.heap.size) L (fun _ => false) (World.drew wy) := FBx.start B (by subst hL; exact List.forall_mem_cons.2 ⟨g6, List.forall_mem_cons.2 ⟨g7, List.forall_mem_cons.2 ⟨g10, List.forall_mem_cons.2 ⟨g2, List.forall_mem_cons.2 ⟨g3, fun _ h => by cases h⟩⟩⟩⟩⟩)
      have DP : Dep (FBx w (w.heap.size) L) [13, 15] := FBx.dep (by subst hL; simp)
      have kb2 := fun x : FXN (FBx w (w.heap.size) L) => FBx.cell (Bk.mk p10 85 13 (#[.int .i64 a1, .int .i64 t1]) (#[.int .i64 a1, .int .i64 t1])) (by subst hL; simp) rfl x
      dsimp only at kb2
      have kb3 := fun x : FXN (FBx w (w.heap.size) L) => FBx.cell (Bk.mk p2 85 13 (#[.int .i64 0, .int .i64 0]) (#[.int .i64 0, .int .i64 0])) (by subst hL; simp) rfl x
      dsimp only at kb3
      have kb4 := fun x : FXN (FBx w (w.heap.size) L) => FBx.cell (Bk.mk p3 86 13 (#[.bool false, .bool false]) (#[.bool false, .bool false])) (by subst hL; simp) rfl x
      dsimp only at kb4
      have S1 := FBx.stepRow (P := Tryz.prog) (w0 := w) (B := w.heap.size) (L := L) (k := 13) (Bk.mk p6 142 13 (fnd a0 t0 a1 t1 1) (fnd a0 t0 a1 t1 2)) (by subst hL; simp) hB6 rfl (q := 2) (cells := #[.int .i64 a1, .int .i64 t1]) (by simp [fnd, rgt]) (by simp [fnd, rgt]) (by simp [putL, fnd, rgt]) (by simp [putL, fnd, rgt]) (by subst hL; exact List.forall_mem_cons.2 ⟨.inl rfl, List.forall_mem_cons.2 ⟨.inr ⟨by show p7 ≠ p6; omega, .inl (by show (15 : Nat) ≠ 13; decide)⟩, List.forall_mem_cons.2 ⟨.inr ⟨by show p10 ≠ p6; omega, .inr rfl⟩, List.forall_mem_cons.2 ⟨.inr ⟨by show p2 ≠ p6; omega, .inr rfl⟩, List.forall_mem_cons.2 ⟨.inr ⟨by show p3 ≠ p6; omega, .inr rfl⟩, fun _ h => by cases h⟩⟩⟩⟩⟩) (ty := 85) (by kernel_rfl) (by simp [Value.oneCell'])
      dsimp only at S1
      have HS1 := Lib.hid S1; clear S1
      have S1 := FBx.step1 (P := Tryz.prog) (w0 := w) (B := w.heap.size) (L := L) (k := 15) (Bk.mk p7 86 15 (rgt b0 b1 1) (rgt b0 b1 2)) (by subst hL; simp) hB7 rfl (q := 1) (u := .bool b1) (u0 := .bool false) (u1 := .bool b1) rfl rfl (by simp [rgt, fnd]) (by simp [rgt, fnd]) (by subst hL; exact List.forall_mem_cons.2 ⟨.inr ⟨by show p6 ≠ p7; omega, .inl (by show (13 : Nat) ≠ 15; decide)⟩, List.forall_mem_cons.2 ⟨.inl rfl, List.forall_mem_cons.2 ⟨.inr ⟨by show p10 ≠ p7; omega, .inr rfl⟩, List.forall_mem_cons.2 ⟨.inr ⟨by show p2 ≠ p7; omega, .inr rfl⟩, List.forall_mem_cons.2 ⟨.inr ⟨by show p3 ≠ p7; omega, .inr rfl⟩, fun _ h => by cases h⟩⟩⟩⟩⟩) (ty := 4) (fun W u0 h1 h2 => store_bool (by kernel_rfl) W _ u0 _ h1 h2)
      dsimp only at S1
      have HS2 := Lib.hid S1; clear S1
      have HST := Lib.hid ST; clear ST; have HL := Lib.hid hL; clear hL
      haveI : Nonempty (FXN (FBx w (w.heap.size) L)) := ⟨⟨_, _, HST.out⟩⟩
      clear kb3 kb4 g2 g3 g6 g7 g10 B d2 d3 d6 d7
      rcases KK.out.2 with ⟨rfl, hq⟩ | ⟨hq, rfl⟩
      all_goals
        refine wp_region_N (FBx w (w.heap.size) L) [13, 15] DP (by kernel_rfl) (by kernel_rfl) (by kernel_rfl) HST.out ?_
        iterate 6 (refine wpN_read DP rfl (by decide) ?_; go_big_quiet_step (fail); refine wpQuiet_nil ?_)
        iterate 3 (first | (refine wpN_skip DP (by decide) rfl ?_; simp only [Act.put, List.setIfInBounds_toArray, List.set_cons_zero, List.set_cons_succ]) | (refine wpN_read DP rfl (by decide) ?_; go_big_quiet_step (fail); refine wpQuiet_nil ?_))
        first | (refine wpN_skip DP (by decide) rfl ?_; simp only [Act.put, List.setIfInBounds_toArray, List.set_cons_zero, List.set_cons_succ]) | (refine wpN_len DP rfl (by decide) rfl (fun W => l1 _ W) ?_; simp only [Act.put, List.setIfInBounds_toArray, List.set_cons_zero, List.set_cons_succ])
        iterate 1 (first | (refine wpN_skip DP (by decide) rfl ?_; simp only [Act.put, List.setIfInBounds_toArray, List.set_cons_zero, List.set_cons_succ]) | (refine wpN_read DP rfl (by decide) ?_; go_big_quiet_step (fail); refine wpQuiet_nil ?_))
        iterate 2 (refine wpN_read DP rfl (by decide) ?_; go_big_quiet_step (fail); refine wpQuiet_nil ?_)
        refine wpN_store DP 85 (.tmp 45) (.tmp 35) rfl rfl (p := .pointer (some ⟨p6, 2, none⟩)) (u := .agg #[.int .i64 a1, .int .i64 t1]) (by rfl) (by rfl) HS1.out ?_
        simp only [Act.put, List.setIfInBounds_toArray, List.set_cons_zero, List.set_cons_succ]
        iterate 1 (refine wpN_read DP rfl (by decide) ?_; go_big_quiet_step (fail); refine wpQuiet_nil ?_)
        refine wpN_store DP 4 (.tmp 46) (.tmp 44) rfl rfl (p := .pointer (some ⟨p7, 1, none⟩)) (u := _) (by rfl) (by rfl) HS2.out ?_
        simp only [Act.put, List.setIfInBounds_toArray, List.set_cons_zero, List.set_cons_succ]
        intro wz hd
        obtain ⟨B, hd⟩ := FBx.done hd
        rw [HL.out] at hd
        obtain ⟨g6, hd⟩ := List.forall_mem_cons.1 hd
        obtain ⟨g7, hd⟩ := List.forall_mem_cons.1 hd
        obtain ⟨g10, hd⟩ := List.forall_mem_cons.1 hd
        obtain ⟨g2, hd⟩ := List.forall_mem_cons.1 hd
        obtain ⟨g3, hd⟩ := List.forall_mem_cons.1 hd
        dsimp only at g6 g7 g10 g2 g3
        clear hd HST HL DP this
        have HH := Lib.hid (And.intro g2 (And.intro g3 (And.intro g6 (And.intro g7 B))))
        clear g2 g3 g6 g7 g10 B HS1 HS2
        go_wp2
        go_roundg (2 - 2)
        case measure => omega
        case rel => exact ⟨2, by omega, rfl, by go_num, HH⟩
    · obtain ⟨G2, G3, G6, G7, B⟩ := hh.out
      have g2 := G2; have g3 := G3; have g6 := G6; have g7 := G7
      have d2 := g2.lt; have d3 := g3.lt; have d6 := g6.lt; have d7 := g7.lt
      clear G2 G3 G6 G7 hh ix0 ix1 R0 R1 HV0 HV1 sl0 sl1
      cases b0
      · cases b1
        · obtain ⟨rfl, rfl, rfl⟩ := FF.out.2.2 rfl rfl
          have c7 : wr.cell? ⟨p7, 0, none⟩ = some (.bool false) := g7.cell 0; have c7b : wr.cell? ⟨p7, 1, none⟩ = some (.bool false) := g7.cell 1; have c2 := g2.cell; have f2 := g2.free; have c3 := g3.cell; have f3 := g3.free
          go_wp2
          refine bodyPost_ret (v := .tuple #[.agg #[.int .i64 0, .int .i64 0], .agg #[.bool false, .bool false], .int .i64 50]) (by simp [results, Tryz.results37, go_sem, c2, c3, f2, f3]) rfl ⟨rfl, ?_⟩
          (repeat (first | refine Below.setCell ?_ (by first | exact hB2 | exact hB3 | (simp <;> omega)) _)); exact B
        · obtain ⟨rfl, rfl, rfl⟩ := FF.out.2.1 rfl rfl
          have c7 : wr.cell? ⟨p7, 0, none⟩ = some (.bool false) := g7.cell 0; have c7b : wr.cell? ⟨p7, 1, none⟩ = some (.bool true) := g7.cell 1
          go_upto_region 15 with (fail)
          clear c7 c7b
          obtain ⟨L, hL⟩ : ∃ L, L = [Bk.mk p2 85 3 (#[.int .i64 0, .int .i64 0]) (#[.int .i64 W, .int .i64 T]), Bk.mk p3 86 4 (#[.bool false, .bool false]) (#[.bool false, .bool true]), Bk.mk p6 142 3 (#[.int .i64 a0, .int .i64 t0, .int .i64 W, .int .i64 T]) (#[.int .i64 a0, .int .i64 t0, .int .i64 W, .int .i64 T]), Bk.mk p7 86 3 (#[.bool false, .bool true]) (#[.bool false, .bool true])] := ⟨_, rfl⟩
          have ST : FBx w (w.heap.size) L (fun _ => false) (World.drew wr) := FBx.start B (by subst hL; exact List.forall_mem_cons.2 ⟨g2, List.forall_mem_cons.2 ⟨g3, List.forall_mem_cons.2 ⟨g6, List.forall_mem_cons.2 ⟨g7, fun _ h => by cases h⟩⟩⟩⟩)
          have DP : Dep (FBx w (w.heap.size) L) [3, 4] := FBx.dep (by subst hL; simp)
          have kb2 := fun x : FXN (FBx w (w.heap.size) L) => FBx.cell (Bk.mk p6 142 3 (#[.int .i64 a0, .int .i64 t0, .int .i64 W, .int .i64 T]) (#[.int .i64 a0, .int .i64 t0, .int .i64 W, .int .i64 T])) (by subst hL; simp) rfl x
          dsimp only at kb2
          have kb3 := fun x : FXN (FBx w (w.heap.size) L) => FBx.cell (Bk.mk p7 86 3 (#[.bool false, .bool true]) (#[.bool false, .bool true])) (by subst hL; simp) rfl x
          dsimp only at kb3
          have S1 := FBx.stepRow (P := Tryz.prog) (w0 := w) (B := w.heap.size) (L := L) (k := 3) (Bk.mk p2 85 3 (#[.int .i64 0, .int .i64 0]) (#[.int .i64 W, .int .i64 T])) (by subst hL; simp) hB2 rfl (q := 0) (cells := #[.int .i64 W, .int .i64 T]) (by simp [fnd, rgt]) (by simp [fnd, rgt]) (by simp [putL, fnd, rgt]) (by simp [putL, fnd, rgt]) (by subst hL; exact List.forall_mem_cons.2 ⟨.inl rfl, List.forall_mem_cons.2 ⟨.inr ⟨by show p3 ≠ p2; omega, .inl (by show (4 : Nat) ≠ 3; decide)⟩, List.forall_mem_cons.2 ⟨.inr ⟨by show p6 ≠ p2; omega, .inr rfl⟩, List.forall_mem_cons.2 ⟨.inr ⟨by show p7 ≠ p2; omega, .inr rfl⟩, fun _ h => by cases h⟩⟩⟩⟩) (ty := 85) (by kernel_rfl) (by simp [Value.oneCell'])
          dsimp only at S1
          have HS1 := Lib.hid S1; clear S1
          have S1 := FBx.stepRow (P := Tryz.prog) (w0 := w) (B := w.heap.size) (L := L) (k := 4) (Bk.mk p3 86 4 (#[.bool false, .bool false]) (#[.bool false, .bool true])) (by subst hL; simp) hB3 rfl (q := 0) (cells := #[.bool false, .bool true]) (by simp [fnd, rgt]) (by simp [fnd, rgt]) (by simp [putL, fnd, rgt]) (by simp [putL, fnd, rgt]) (by subst hL; exact List.forall_mem_cons.2 ⟨.inr ⟨by show p2 ≠ p3; omega, .inl (by show (3 : Nat) ≠ 4; decide)⟩, List.forall_mem_cons.2 ⟨.inl rfl, List.forall_mem_cons.2 ⟨.inr ⟨by show p6 ≠ p3; omega, .inr rfl⟩, List.forall_mem_cons.2 ⟨.inr ⟨by show p7 ≠ p3; omega, .inr rfl⟩, fun _ h => by cases h⟩⟩⟩⟩) (ty := 86) (by kernel_rfl) (by simp [Value.oneCell'])
          dsimp only at S1
          have HS2 := Lib.hid S1; clear S1
          have HST := Lib.hid ST; clear ST; have HL := Lib.hid hL; clear hL
          haveI : Nonempty (FXN (FBx w (w.heap.size) L)) := ⟨⟨_, _, HST.out⟩⟩
          clear g2 g3 g6 g7 B d2 d3 d6 d7
          refine wp_region_N (FBx w (w.heap.size) L) [3, 4] DP (by kernel_rfl) (by kernel_rfl) (by kernel_rfl) HST.out ?_
          iterate 3 (refine wpN_read DP rfl (by decide) ?_; go_big_quiet_step (fail); refine wpQuiet_nil ?_)
          refine wpN_store DP 85 (.tmp 2) (.tmp 58) rfl rfl (p := .pointer (some ⟨p2, 0, none⟩)) (u := _) (by rfl) (by rfl) HS1.out ?_
          simp only [Act.put, List.setIfInBounds_toArray, List.set_cons_zero, List.set_cons_succ]
          refine wpN_store DP 86 (.tmp 3) (.tmp 59) rfl rfl (p := .pointer (some ⟨p3, 0, none⟩)) (u := _) (by rfl) (by rfl) HS2.out ?_
          simp only [Act.put, List.setIfInBounds_toArray, List.set_cons_zero, List.set_cons_succ]
          iterate 1 (refine wpN_read DP rfl (by decide) ?_; go_big_quiet_step (fail); refine wpQuiet_nil ?_)
          intro wz hd
          obtain ⟨B, hd⟩ := FBx.done hd
          rw [HL.out] at hd
          obtain ⟨g2, hd⟩ := List.forall_mem_cons.1 hd
          obtain ⟨g3, hd⟩ := List.forall_mem_cons.1 hd
          obtain ⟨g6, hd⟩ := List.forall_mem_cons.1 hd
          obtain ⟨g7, hd⟩ := List.forall_mem_cons.1 hd
          dsimp only at g2 g3 g6 g7
          clear hd HST HL DP this
          have c2 := g2.cell; have f2 := g2.free; have c3 := g3.cell; have f3 := g3.free
          go_wp2
          refine bodyPost_ret (v := .tuple #[.agg #[.int .i64 W, .int .i64 T], .agg #[.bool false, .bool true], .int .i64 0]) (by simp [results, Tryz.results37, go_sem, c2, c3, f2, f3]) rfl ⟨rfl, B⟩
      · obtain ⟨rfl, rfl, rfl⟩ := FF.out.1 rfl
        have c7 : wr.cell? ⟨p7, 0, none⟩ = some (.bool true) := g7.cell 0
        go_upto_region 13 with (fail)
        clear c7
        obtain ⟨L, hL⟩ : ∃ L, L = [Bk.mk p2 85 3 (#[.int .i64 0, .int .i64 0]) (#[.int .i64 W, .int .i64 T]), Bk.mk p3 86 4 (#[.bool false, .bool false]) (#[.bool true, .bool b1]), Bk.mk p6 142 3 (#[.int .i64 W, .int .i64 T, .int .i64 a1, .int .i64 t1]) (#[.int .i64 W, .int .i64 T, .int .i64 a1, .int .i64 t1]), Bk.mk p7 86 3 (#[.bool true, .bool b1]) (#[.bool true, .bool b1])] := ⟨_, rfl⟩
        have ST : FBx w (w.heap.size) L (fun _ => false) (World.drew wr) := FBx.start B (by subst hL; exact List.forall_mem_cons.2 ⟨g2, List.forall_mem_cons.2 ⟨g3, List.forall_mem_cons.2 ⟨g6, List.forall_mem_cons.2 ⟨g7, fun _ h => by cases h⟩⟩⟩⟩)
        have DP : Dep (FBx w (w.heap.size) L) [3, 4] := FBx.dep (by subst hL; simp)
        have kb2 := fun x : FXN (FBx w (w.heap.size) L) => FBx.cell (Bk.mk p6 142 3 (#[.int .i64 W, .int .i64 T, .int .i64 a1, .int .i64 t1]) (#[.int .i64 W, .int .i64 T, .int .i64 a1, .int .i64 t1])) (by subst hL; simp) rfl x
        dsimp only at kb2
        have kb3 := fun x : FXN (FBx w (w.heap.size) L) => FBx.cell (Bk.mk p7 86 3 (#[.bool true, .bool b1]) (#[.bool true, .bool b1])) (by subst hL; simp) rfl x
        dsimp only at kb3
        have S1 := FBx.stepRow (P := Tryz.prog) (w0 := w) (B := w.heap.size) (L := L) (k := 3) (Bk.mk p2 85 3 (#[.int .i64 0, .int .i64 0]) (#[.int .i64 W, .int .i64 T])) (by subst hL; simp) hB2 rfl (q := 0) (cells := #[.int .i64 W, .int .i64 T]) (by simp [fnd, rgt]) (by simp [fnd, rgt]) (by simp [putL, fnd, rgt]) (by simp [putL, fnd, rgt]) (by subst hL; exact List.forall_mem_cons.2 ⟨.inl rfl, List.forall_mem_cons.2 ⟨.inr ⟨by show p3 ≠ p2; omega, .inl (by show (4 : Nat) ≠ 3; decide)⟩, List.forall_mem_cons.2 ⟨.inr ⟨by show p6 ≠ p2; omega, .inr rfl⟩, List.forall_mem_cons.2 ⟨.inr ⟨by show p7 ≠ p2; omega, .inr rfl⟩, fun _ h => by cases h⟩⟩⟩⟩) (ty := 85) (by kernel_rfl) (by simp [Value.oneCell'])
        dsimp only at S1
        have HS1 := Lib.hid S1; clear S1
        have S1 := FBx.stepRow (P := Tryz.prog) (w0 := w) (B := w.heap.size) (L := L) (k := 4) (Bk.mk p3 86 4 (#[.bool false, .bool false]) (#[.bool true, .bool b1])) (by subst hL; simp) hB3 rfl (q := 0) (cells := #[.bool true, .bool b1]) (by simp [fnd, rgt]) (by simp [fnd, rgt]) (by simp [putL, fnd, rgt]) (by simp [putL, fnd, rgt]) (by subst hL; exact List.forall_mem_cons.2 ⟨.inr ⟨by show p2 ≠ p3; omega, .inl (by show (3 : Nat) ≠ 4; decide)⟩, List.forall_mem_cons.2 ⟨.inl rfl, List.forall_mem_cons.2 ⟨.inr ⟨by show p6 ≠ p3; omega, .inr rfl⟩, List.forall_mem_cons.2 ⟨.inr ⟨by show p7 ≠ p3; omega, .inr rfl⟩, fun _ h => by cases h⟩⟩⟩⟩) (ty := 86) (by kernel_rfl) (by simp [Value.oneCell'])
        dsimp only at S1
        have HS2 := Lib.hid S1; clear S1
        have HST := Lib.hid ST; clear ST; have HL := Lib.hid hL; clear hL
        haveI : Nonempty (FXN (FBx w (w.heap.size) L)) := ⟨⟨_, _, HST.out⟩⟩
        clear g2 g3 g6 g7 B d2 d3 d6 d7
        refine wp_region_N (FBx w (w.heap.size) L) [3, 4] DP (by kernel_rfl) (by kernel_rfl) (by kernel_rfl) HST.out ?_
        iterate 3 (refine wpN_read DP rfl (by decide) ?_; go_big_quiet_step (fail); refine wpQuiet_nil ?_)
        refine wpN_store DP 85 (.tmp 2) (.tmp 52) rfl rfl (p := .pointer (some ⟨p2, 0, none⟩)) (u := _) (by rfl) (by rfl) HS1.out ?_
        simp only [Act.put, List.setIfInBounds_toArray, List.set_cons_zero, List.set_cons_succ]
        refine wpN_store DP 86 (.tmp 3) (.tmp 53) rfl rfl (p := .pointer (some ⟨p3, 0, none⟩)) (u := _) (by rfl) (by rfl) HS2.out ?_
        simp only [Act.put, List.setIfInBounds_toArray, List.set_cons_zero, List.set_cons_succ]
        iterate 1 (refine wpN_read DP rfl (by decide) ?_; go_big_quiet_step (fail); refine wpQuiet_nil ?_)
        intro wz hd
        obtain ⟨B, hd⟩ := FBx.done hd
        rw [HL.out] at hd
        obtain ⟨g2, hd⟩ := List.forall_mem_cons.1 hd
        obtain ⟨g3, hd⟩ := List.forall_mem_cons.1 hd
        obtain ⟨g6, hd⟩ := List.forall_mem_cons.1 hd
        obtain ⟨g7, hd⟩ := List.forall_mem_cons.1 hd
        dsimp only at g2 g3 g6 g7
        clear hd HST HL DP this
        have c2 := g2.cell; have f2 := g2.free; have c3 := g3.cell; have f3 := g3.free
        go_wp2
        refine bodyPost_ret (v := .tuple #[.agg #[.int .i64 W, .int .i64 T], .agg #[.bool true, .bool b1], .int .i64 0]) (by simp [results, Tryz.results37, go_sem, c2, c3, f2, f3]) rfl ⟨rfl, B⟩
end Go.Proofs.YtbfmdbeeiicabaaGreat
namespace Go.Proofs.YtbfmdbeeiicabaaGreat.L19
open L02 L07 L13 L14 L15 L18 L20
/-- the number of the block at an address -/
def idx : List Hb → Int → Option Nat
  | [], _ => none
  | b :: O, a => if b.at_ = a then some 0 else (idx O a).map (· + 1)
def refV (O : List Hb) (v : UInt64) : UInt64 := match idx O v.toNat with | some i => UInt64.ofNat (i + 1) | none => 0
def fldV (O : List Hb) (k : UInt8) (v : UInt64) : UInt64 := if k.toNat = 3 then refV O v else v
def obFs (l : List UInt64) (T : List (List UInt8)) (O : List Hb) (b : Hb) : List UInt64 := (List.range (kindsB T b).length).map fun i => fldV O ((kindsB T b).getD i 0) (fw l b i)
def obOf (l : List UInt64) (T : List (List UInt8)) (O : List Hb) (b : Hb) : Ob := ⟨b.ty, obFs l T O b⟩
def slOf (O : List Hb) (s : Sl) : Sl := if s.used = true then ⟨s.gen, true, match idx O s.at_ with | some i => (i : Int) | none => -1⟩ else s
def seen (l : List UInt64) : Mo := ⟨T19 l, (O19 l).map (obOf l (T19 l) (O19 l)), (slots l).map (slOf (O19 l))⟩
theorem idx_some : ∀ {O : List Hb} {a : Int} {i : Nat}, idx O a = some i → ∃ b, O[i]? = some b ∧ b.at_ = a
  | [], a, i, h => by cases h
  | b :: O, a, i, h => by
    rw [idx] at h
    by_cases hb : b.at_ = a
    · rw [if_pos hb] at h; injection h with h; subst h; exact ⟨b, rfl, hb⟩
    · rw [if_neg hb] at h
      cases h2 : idx O a with
      | none => rw [h2] at h; cases h
      | some j =>
        rw [h2] at h; injection h with h
        obtain ⟨c, h3, h4⟩ := idx_some h2
        subst h
        exact ⟨c, h3, h4⟩
theorem idx_none : ∀ {O : List Hb} {a : Int}, idx O a = none ↔ ¬ IsObj O a
  | [], a => ⟨fun _ ⟨b, hb, _⟩ => (by cases hb), fun _ => rfl⟩
  | b :: O, a => by
    rw [idx]
    by_cases hb : b.at_ = a
    · rw [if_pos hb]
      exact ⟨fun h => (by cases h), fun h => absurd ⟨b, List.mem_cons_self, hb⟩ h⟩
    · rw [if_neg hb, Option.map_eq_none_iff, idx_none]
      constructor
      · rintro h ⟨c, hc, e⟩
        rcases List.mem_cons.1 hc with rfl | hc
        · exact hb e
        · exact h ⟨c, hc, e⟩
      · rintro h ⟨c, hc, e⟩; exact h ⟨c, List.mem_cons_of_mem _ hc, e⟩
theorem idx_of {O : List Hb} {a : Int} (h : IsObj O a) : ∃ i b, idx O a = some i ∧ O[i]? = some b ∧ b.at_ = a ∧ i < O.length := by
  cases h2 : idx O a with
  | none => exact absurd h (idx_none.1 h2)
  | some i =>
    obtain ⟨b, h3, h4⟩ := idx_some h2
    exact ⟨i, b, rfl, h3, h4, (List.getElem?_eq_some_iff.1 h3).1⟩
theorem obFs_len (l : List UInt64) (T : List (List UInt8)) (O : List Hb) (b : Hb) : (obFs l T O b).length = (kindsB T b).length := by simp [obFs]
theorem obFs_get {l : List UInt64} {T : List (List UInt8)} {O : List Hb} {b : Hb} {i : Nat} (h : i < (kindsB T b).length) : (obFs l T O b)[i]? = some (fldV O ((kindsB T b).getD i 0) (fw l b i)) := by
  simp [obFs, List.getElem?_map, List.getElem?_range h]
theorem all_len {l : List UInt64} (h : allErr l = 0) : (allL l).length ≤ 960 := by
  obtain ⟨hs, hp⟩ := allErr_ok h
  have := chain_len (chain_iff.1 (parsed_ok.1 hp).1)
  have := hs.2.1
  omega
theorem objs_len {l : List UInt64} (h : allErr l = 0) : (O19 l).length ≤ 960 := Nat.le_trans (List.length_filter_le _ _) (all_len h)
/-- objects lie apart, so that an address tells one -/
theorem objs_inj {l : List UInt64} (h : allErr l = 0) {a b : Hb} (ha : a ∈ O19 l) (hb : b ∈ O19 l) (e : a.at_ = b.at_) : a = b := by
  obtain ⟨_, _, _, h1, _, _, _, _, h2, _⟩ := objs_at h ha
  obtain ⟨_, _, _, h3, _, _, _, _, h4, _⟩ := objs_at h hb
  rcases all_apart h (objs_mem.1 ha).1 (objs_mem.1 hb).1 with h5 | h5 | h5
  · exact h5
  · omega
  · omega
theorem T19_ok {l : List UInt64} (h : tabErr l (sT l) = 0) : (T19 l).length ≤ 8 ∧ ∀ t ∈ T19 l, kErr t = 0 := by
  have h0 := h
  unfold tabErr at h
  split at h
  · split at h
    · rename_i h1 h2
      split at h
      · rename_i h3
        have e : T19 l = tysTo l (sT l).toNat := by unfold T19 tabT; rw [if_pos h0]
        refine ⟨by rw [e, tysTo_len]; omega, fun t ht => ?_⟩
        rw [e] at ht
        obtain ⟨i, hi, rfl⟩ := List.mem_map.1 ht
        have hi' := List.mem_range.1 hi
        have := h3 i (by omega)
        unfold TyOk at this
        rw [if_pos hi'] at this
        rw [rdL, if_pos this]
        exact this.2.1
      · omega
    · omega
  · omega
theorem seen_slot {l : List UInt64} (h : Rt l) {s : Sl} (hs : s ∈ slots l) : Right s := by
  have hr := allR_of h.sl
  obtain ⟨x, hx, rfl⟩ := List.mem_map.1 hs
  exact hr x hx
end Go.Proofs.YtbfmdbeeiicabaaGreat.L19
namespace Go.Proofs.YtbfmdbeeiicabaaGreat
open Go Go.RowKit
section
variable {P : Program} {ops : Array Oper} {rest : List Oper} {o : Oper} {a : Act} {Q : Exit → Act → World → Prop} {w : World}
theorem run_append_own2 (base : Nat) (t ty e : TypeId) (i : TypeInfo) (z : Value) (size bytes : Nat) (ht : P.underlying t = some (.slice e)) (hi : P.info? e = some i) (hz : i.zero = some z)
    (hsize : i.size = size) (hby : i.bytes = bytes) (hzs : z.cells.size = size) (hsz : 0 < size) (v : Value) (n : Nat) (xs : List Value) (hown : w.ownsRow base e size v n xs)
    (ad : Addr) (m c : Nat) (news : List Value) (hl : news.length = m * size) (hnews : ∀ j u, news[j]? = some u → w.cell? (ad.add j) = some u) (h1 : ∀ u ∈ news, u.oneCell' = true)
    (h63 : n + m ≤ maxLen) (hbytes : (n + m) * bytes ≤ 140737488355328) (hbase : base ≤ w.heap.size) :
    ∃ v' w', (Builtin.append_ #[t, t] ty #[v, .slice (some ad) m c]).run P w = .ok v' w' ∧ w'.ownsRow base e size v' (n + m) (xs ++ news) ∧ w.grownBy w' v.ownBlock ∧ ∀ g, v'.ownBlock = some g → v.ownBlock = some g ∨ w.heap.size ≤ g := by
  obtain ⟨v', w', hrun, r1, r2, _⟩ := run_append_own (P := P) w base t ty e i z size bytes ht hi hz hsize hby hzs hsz v n xs hown ad m c news hl hnews h1 h63 hbytes hbase
  refine ⟨v', w', hrun, r1, r2, fun g hg => ?_⟩
  rcases hown.2 with ⟨rfl, rfl⟩ | ⟨g0, cap, cur, rfl, hB, hg0, hc, hm, hcs, htk⟩
  · have hxs : xs = [] := List.eq_nil_of_length_eq_zero (by have := hown.1; simpa using this)
    obtain ⟨v2, w2, hrun2, r3, _⟩ := run_append_own (P := P) w w.heap.size t ty e i z size bytes ht hi hz hsize hby hzs hsz (.slice none 0 0) 0 [] (World.ownsRow_nil w _ _ _) ad m c news hl hnews h1 h63 hbytes (Nat.le_refl _)
    rw [hrun] at hrun2
    injection hrun2 with e1 e2
    subst e1; subst e2
    exact .inr (r3.lt g hg).1
  · subst hsize
    have hcell : ∀ j u, xs[j]? = some u → w.cell? ((⟨g0, 0, none⟩ : Addr).add j) = some u := fun j u hu => hown.cells (g := g0) rfl j u hu
    by_cases hroom : n + m ≤ cap
    · have hr := run_append_room_cells (P := P) w t ty e i ht hi g0 0 n cap ad m c news hl hnews h1 hroom (fun j hj => by
        have hlt : 0 + n * i.size + j < cur.size := by
          have : (n + m) * i.size ≤ cap * i.size := Nat.mul_le_mul hroom (Nat.le_refl _)
          rw [Nat.add_mul] at this; rw [hcs]; rw [hl] at hj; omega
        have := cell_of_row w g0 (0 + n * i.size + j) cur e (0, 0) hg0
        rw [this, Array.getElem?_eq_getElem hlt]; rfl) (fun j hj => frozen_of_row w g0 _ cur e hg0)
      rw [hrun] at hr
      injection hr with e1 e2
      subst e1
      exact .inl hg
    · obtain ⟨v2, w2, hrun2, r3, _⟩ := run_append_arg_grows (P := P) w t ty e i z i.size bytes ht hi hz rfl hby hzs hsz ⟨g0, 0, none⟩ n cap xs hown.1 hcell ad m c news hl hnews (by omega) h63 hbytes
      rw [hrun] at hrun2
      injection hrun2 with e1 e2
      subst e1; subst e2
      exact .inr (r3.lt g hg).1
theorem wpList_append2 (hgd : Region.wanted o (yielded ops a.tmps) = true) {s x : Operand} {t e B sz by_ : Nat} (ho : o.op = .call { callee := .builtin .append, args := #[s, x], argTypes := #[t, t] })
    {v z : Value} {n m c : Nat} {xs ys : List Value} (hs : a.eval s = v) {ad : Addr} (hx : a.eval x = .slice (some ad) m c) (ht : P.underlying t = some (.slice e))
    (hi : (P.info? e).map (fun i => (i.zero, i.size, i.bytes)) = some (some z, sz, by_)) (hzs : z.cells.size = sz) (hsz : 0 < sz)
    (hown : w.ownsRow B e sz v n xs) (hrd : Rd w sz (.slice (some ad) m c) m ys) (h1 : ∀ u ∈ ys, u.oneCell' = true) (hm : 0 < m) (h63 : n + m ≤ 9223372036854775807) (hbytes : (n + m) * by_ ≤ 140737488355328)
    {w0 : World} (hb : Below B w0 w) (hB : B ≤ w0.heap.size)
    (h : ∀ v' w', w'.ownsRow B e sz v' (n + m) (xs ++ ys) → Below B w0 w' → w.grownBy w' v.ownBlock → (∀ g, v'.ownBlock = some g → v.ownBlock = some g ∨ w.heap.size ≤ g) → wpList P ops Q rest (a.put o.dst v') w') : wpList P ops Q (o :: rest) a w := by
  obtain ⟨i, hi1, hi2, hi3, hi4⟩ := info3 hi
  have hcell : ∀ j u, ys[j]? = some u → w.cell? (ad.add j) = some u := by
    obtain ⟨A, c', e1, s1, s2, s3, s4, s5⟩ := hrd
    injection e1 with e1 _ _
    intro j u hu
    obtain ⟨p1, p2, p3⟩ := s5 hm ad e1.symm
    obtain ⟨b, q, sp⟩ := ad
    simp at p1; subst p1
    rw [show ((⟨b, q, none⟩ : Addr).add j) = ⟨b, q + j, none⟩ by unfold Addr.add; split <;> simp_all]
    exact p3 j u hu
  have hyl : ys.length = m * sz := by obtain ⟨A, c', e1, s1, s2, s3, _⟩ := hrd; exact s3
  obtain ⟨v', w', hrun, r1, r2, r3⟩ := run_append_own2 (P := P) (w := w) B t o.type e i z sz by_ ht hi1 hi2 hi3 hi4 hzs hsz v n xs hown ad m c ys hyl hcell h1 (by unfold maxLen; omega) hbytes (Nat.le_trans hB hb.size)
  refine wpList_wanted hgd fun K hK => ?_
  unfold Oper.wp
  simp [execOp, ho, resolve, invoke, builtin, hs, hx, hrun, Result.andThen]
  exact hK _ _ (h v' w' r1 (hb.grown r2 (Nat.le_trans hB hb.size) fun k hk => (hown.lt k hk).1) r2 r3)
end
end Go.Proofs.YtbfmdbeeiicabaaGreat
