/- Contracts of the functions that the law 'ModelOf' reaches, part 6. No condition. -/
import Derived.Test.YtbfmdbeeiicabaaMMOfe
set_option linter.unusedVariables false
set_option linter.unusedSimpArgs false
namespace Go.Proofs.Ytbfmdbeeiicabaa
open Go.RowKit L01 L02 L05 L06 L07 L13 L14 L15 L18 L19
theorem ReasonR_any (v : Value) (l : List UInt64) (n : Nat) (r : Int) (hn : n = rea l) (hr : r = reaE l) (w : World) (h : Words w v l) :
    Calls Try.prog 28 #[v] w fun e w' => e = .returned (.tuple #[.int .i64 n, .int .i64 r]) ∧ Below w.heap.size w w' := by
  have B : Below w.heap.size w w := Below.refl _ _
  have H := Lib.hid h
  obtain ⟨c, hc⟩ : ∃ c, c = chk l := ⟨_, rfl⟩
  have CT : Hid (∀ w, Words w v l → Calls Try.prog 14 #[v] w fun e w' => e = .returned (.int .i64 c) ∧ w = w') := by rw [hc]; exact Lib.hid (fun w h => CheckR_any v l w h)
  by_cases hs : SizeOk l.length
  case neg =>
    have hr0 : r = 8 := by rw [hr, reaE, if_neg hs]
    have hn0 : n = 0 := by rw [hn, rea, if_neg hs]
    have hc8 : c = 8 := by rw [hc, chk_no hs]
    subst hr0; subst hn0; subst hc8
    clear hr hn hs hc h
    go_enter Try.func28, Try.ntmps28
    go_wp2_with fail
    refine (CT.out _ (H.out.below B)).mono ?_
    rintro e w' ⟨rfl, rfl⟩
    go_wp2
    go_ret2
    exact ⟨rfl, B⟩
  case pos =>
    have hr0 : r = 0 := by rw [hr, reaE, if_pos hs]
    have hnw : n = why l := by rw [hn, rea, if_pos hs]
    have hc0 : c = 0 := by rw [hc, chk_ok hs]
    have WT := Lib.hid (fun w h => WhyR_any v l hs n hnw w h)
    subst hr0; subst hc0
    clear hr hn hs hc h hnw
    go_enter Try.func28, Try.ntmps28
    go_wp2_with fail
    refine (CT.out _ (H.out.below B)).mono ?_
    rintro e w' ⟨rfl, rfl⟩
    go_wp2_with fail
    refine (WT.out _ (H.out.below B)).mono ?_
    rintro e wa1 ⟨rfl, b⟩
    replace B := B.trans (b.mono B.size); clear b
    go_wp2
    go_ret2
    exact ⟨rfl, B⟩
theorem Check19R_any (v : Value) (l : List UInt64) (r : Int) (hr : r = chk19 l) (w : World) (h : Words w v l) :
    Calls Try.prog 30 #[v] w fun e w' => e = .returned (.int .i64 r) ∧ Below w.heap.size w w' := by
  have B : Below w.heap.size w w := Below.refl _ _
  have H := Lib.hid h
  obtain ⟨n, hn⟩ : ∃ n, n = rea l := ⟨_, rfl⟩
  obtain ⟨q, hq⟩ : ∃ q, q = reaE l := ⟨_, rfl⟩
  have RT := Lib.hid (fun w h => ReasonR_any v l n q hn hq w h)
  have hcase : (q = 0 ∧ n = 0 ∧ r = 0) ∨ (q = 0 ∧ 0 < n ∧ r = 50) ∨ (q = 8 ∧ r = 8) := by
    rw [hr, hn, hq]
    by_cases hs : SizeOk l.length
    · by_cases h0 : why l = 0
      · exact .inl ⟨by rw [reaE, if_pos hs], by rw [rea, if_pos hs, h0], by rw [chk19, if_pos hs, if_pos h0]⟩
      · exact .inr (.inl ⟨by rw [reaE, if_pos hs], by rw [rea, if_pos hs]; omega, by rw [chk19, if_pos hs, if_neg h0]⟩)
    · exact .inr (.inr ⟨by rw [reaE, if_neg hs], by rw [chk19, if_neg hs]⟩)
  clear hn hq hr h
  rcases hcase with ⟨rfl, rfl, rfl⟩ | ⟨rfl, h1, rfl⟩ | ⟨rfl, rfl⟩
  · skip
    go_enter Try.func30, Try.ntmps30
    go_wp2_with fail
    refine (RT.out _ (H.out.below B)).mono ?_
    rintro e wa1 ⟨rfl, b⟩
    replace B := B.trans (b.mono B.size); clear b
    go_wp2
    go_ret
    exact ⟨rfl, B⟩
  · have n1 : (0 : Int) < (n : Int) := by omega
    have n2 : decide ((0 : Int) < (n : Int)) = true := decide_eq_true n1
    go_enter Try.func30, Try.ntmps30
    go_wp2_with fail
    refine (RT.out _ (H.out.below B)).mono ?_
    rintro e wa1 ⟨rfl, b⟩
    replace B := B.trans (b.mono B.size); clear b
    go_wp2
    go_ret
    exact ⟨rfl, B⟩
  · skip
    go_enter Try.func30, Try.ntmps30
    go_wp2_with fail
    refine (RT.out _ (H.out.below B)).mono ?_
    rintro e wa1 ⟨rfl, b⟩
    replace B := B.trans (b.mono B.size); clear b
    go_wp2
    go_ret
    exact ⟨rfl, B⟩
end Go.Proofs.Ytbfmdbeeiicabaa
namespace Go.Proofs.Ytbfmdbeeiicabaa.L16
open L02 L14 L15 L19
def free (L : List Hb) : List Hb := L.filter fun b => decide (b.kind = 2)
end Go.Proofs.Ytbfmdbeeiicabaa.L16
namespace Go.Proofs.Ytbfmdbeeiicabaa.L19
open L02 L07 L13 L14 L15 L16 L18
/-- blocks that stand one behind the other, from an address to another -/
inductive Seg (l : List UInt64) : Nat → List Hb → Nat → Prop where
  | nil {k : Nat} : k ≤ l.length → Seg l k [] k
  | cons {k q : Nat} {L : List Hb} : k < l.length → StOk l k → Seg l (k + szN l k) L q → Seg l k (stand l k :: L) q
section
variable {l l' : List UInt64} {k p q : Nat} {A B L : List Hb} {b : Hb}
theorem Seg.le (h : Seg l k L q) : k ≤ q ∧ q ≤ l.length := by
  induction h with
  | nil h => exact ⟨Nat.le_refl _, h⟩
  | cons hk hs _ ih => have := szN_ge hs; omega
theorem Seg.of_chain (h : Chain l k L) : Seg l k L l.length := by
  induction h with
  | nil => exact .nil (Nat.le_refl _)
  | cons hk hs _ ih => exact .cons hk hs ih
theorem Seg.chain (h : Seg l k L q) (e : q = l.length) : Chain l k L := by
  induction h with
  | nil h => subst e; exact .nil
  | cons hk hs _ ih => exact .cons hk hs (ih e)
theorem Seg.append (h1 : Seg l k A p) (h2 : Seg l p B q) : Seg l k (A ++ B) q := by
  induction h1 with
  | nil h => exact h2
  | cons hk hs _ ih => exact .cons hk hs (ih h2)
theorem Seg.split : ∀ {A : List Hb} {k : Nat}, Seg l k (A ++ B) q → ∃ p, Seg l k A p ∧ Seg l p B q
  | [], k, h => ⟨k, .nil (Nat.le_trans (Seg.le h).1 (Seg.le h).2), h⟩
  | a :: A, k, h => by
    rw [List.cons_append] at h
    cases h with
    | cons hk hs ht =>
      obtain ⟨p, h1, h2⟩ := Seg.split ht
      exact ⟨p, .cons hk hs h1, h2⟩
theorem Seg.congr (h : Seg l k L q) (hl : l'.length = l.length) (he : ∀ i, k ≤ i → i < q → l'.getD i 0 = l.getD i 0) : Seg l' k L q := by
  induction h with
  | nil h => exact .nil (by omega)
  | cons hk hs ht ih =>
    rename_i k q L
    have hz := szN_ge hs
    have hle := ht.le
    have e0 := he k (Nat.le_refl _) (by omega)
    have e1 := he (k + 1) (by omega) (by omega)
    have es : stand l' k = stand l k := by unfold stand; rw [e0, e1]
    have ez : szN l' k = szN l k := by unfold szN; rw [e0]
    rw [← es]
    refine .cons (by omega) ?_ ?_
    · unfold StOk; rw [e0, hl]; exact hs
    · rw [ez]; exact ih (fun i h1 h2 => he i (by omega) h2)
/-- the first block -/
theorem Seg.head (h : Seg l k (b :: L) q) : b.at_ = k ∧ BkOk b ∧ b = stand l k ∧ StOk l k ∧ ((k + szN l k : Nat) : Int) = k + b.size ∧ Seg l (k + szN l k) L q := by
  cases h with
  | cons hk hs ht =>
    have hz := szN_ge hs
    refine ⟨rfl, stand_ok hs, rfl, hs, ?_, ht⟩
    rw [stand_size hs]; omega
theorem Seg.one (h : Seg l k [b] q) : b.at_ = k ∧ (q : Int) = k + b.size ∧ BkOk b := by
  obtain ⟨h1, h2, _, _, h3, h4⟩ := h.head
  cases h4 with
  | nil => exact ⟨h1, h3, h2⟩
/-- a block stands where its word does -/
theorem stand_put (hok : BkOk b) (hw : l.getD k 0 = word b) (ha : b.at_ = k) (hn : b.next = l.getD (k + 1) 0) (hle : (k : Int) + b.size ≤ l.length) : StOk l k ∧ stand l k = b ∧ (szN l k : Int) = b.size := by
  have hsp := split_word hok
  have hb := hok.bounds
  refine ⟨⟨by rw [hw]; exact hd_word hok, by rw [hw, hsp]; exact hle⟩, ?_, ?_⟩
  · unfold stand
    rw [hw, hsp, ← hn, ← ha]
  · unfold szN
    rw [hw, hsp]
    show ((b.size.toNat : Nat) : Int) = b.size
    omega
theorem Seg.put (hok : BkOk b) (hw : l.getD k 0 = word b) (ha : b.at_ = k) (hn : b.next = l.getD (k + 1) 0) (hq : (q : Int) = k + b.size) (hle : q ≤ l.length) : Seg l k [b] q := by
  obtain ⟨h1, h2, h3⟩ := stand_put hok hw ha hn (by omega)
  have hb := hok.bounds
  have e : q = k + szN l k := by omega
  have := Seg.cons (l := l) (k := k) (q := q) (L := []) (by omega) h1 (by rw [← e]; exact .nil hle)
  rw [h2] at this
  exact this
/-- the whole heap -/
theorem all_of_seg (hs : SizeOk l.length) (h : Seg l 128 L l.length) (ha : ¬ Adj L) : allErr l = 0 ∧ allL l = L := by
  have hp : parsed l = some L := parsed_ok.2 ⟨from_chain (h.chain rfl), ha⟩
  have he : allErr l = 0 := by unfold allErr; rw [if_pos hs, hp]; rfl
  exact ⟨he, by rw [allL, if_pos he, hp]; rfl⟩
theorem seg_of_all (h : allErr l = 0) : Seg l 128 (allL l) l.length ∧ ¬ Adj (allL l) := by
  obtain ⟨hs, hp⟩ := allErr_ok h
  obtain ⟨hfr, hadj⟩ := parsed_ok.1 hp
  exact ⟨.of_chain (chain_iff.1 hfr), hadj⟩
end
/-- a part of the heap: what stands before it, it, what stands behind it -/
structure Cut (l : List UInt64) (P M S : List Hb) (p q : Nat) : Prop where
  eq : allL l = P ++ (M ++ S)
  s1 : Seg l 128 P p
  s2 : Seg l p M q
  s3 : Seg l q S l.length
  na : ¬ Adj (P ++ (M ++ S))
theorem Cut.of {l : List UInt64} (h : allErr l = 0) {P M S : List Hb} (e : allL l = P ++ (M ++ S)) : ∃ p q, Cut l P M S p q := by
  obtain ⟨h1, h2⟩ := seg_of_all h
  rw [e] at h1 h2
  obtain ⟨p, a1, a2⟩ := Seg.split h1
  obtain ⟨q, a3, a4⟩ := Seg.split a2
  exact ⟨p, q, e, a1, a3, a4, h2⟩
/-- the part written anew -/
theorem Cut.new {l l' : List UInt64} {P M S N : List Hb} {p q : Nat} (hs : SizeOk l.length) (h : Cut l P M S p q) (hl : l'.length = l.length) (he : ∀ i, 128 ≤ i → i < p ∨ q ≤ i → l'.getD i 0 = l.getD i 0) (hN : Seg l' p N q) (hna : ¬ Adj (P ++ (N ++ S))) :
    allErr l' = 0 ∧ allL l' = P ++ (N ++ S) ∧ Cut l' P N S p q := by
  have b1 := h.s1.le
  have b2 := h.s2.le
  have c1 : Seg l' 128 P p := h.s1.congr hl (fun i h1 h2 => he i h1 (.inl h2))
  have c3 : Seg l' q S l'.length := by rw [hl]; exact h.s3.congr hl (fun i h1 h2 => he i (by omega) (.inr h1))
  have c := c1.append (hN.append c3)
  obtain ⟨a1, a2⟩ := all_of_seg (by rw [hl]; exact hs) c hna
  exact ⟨a1, a2, a2, c1, hN, c3, hna⟩
end Go.Proofs.Ytbfmdbeeiicabaa.L19
namespace Go.Proofs.Ytbfmdbeeiicabaa.L20
open L02 L13 L18
/-- a reference to object n -/
def isRef (m : Mo) (o : Ob) (k : Nat) (n : Nat) : Prop := ((ty m.types o).getD k 0).toNat = 3 ∧ (o.fs.getD k 0).toNat = n + 1
instance (m : Mo) (o : Ob) (k n : Nat) : Decidable (isRef m o k n) := inferInstanceAs (Decidable (_ ∧ _))
/-- another slot, or a field of another object, refers to object n -/
def Busy (m : Mo) (sl : Int) (n : Nat) : Prop := (∃ i, i < m.slots.length ∧ (i : Int) ≠ sl ∧ (m.slots.getD i .none).used = true ∧ (m.slots.getD i .none).at_ = n) ∨ ∃ i, i < m.objs.length ∧ i ≠ n ∧ ∃ k, k < (ob m i).fs.length ∧ isRef m (ob m i) k n
instance (m : Mo) (sl : Int) (n : Nat) : Decidable (Busy m sl n) := inferInstanceAs (Decidable ((∃ i, i < m.slots.length ∧ (i : Int) ≠ sl ∧ (m.slots.getD i .none).used = true ∧ (m.slots.getD i .none).at_ = n) ∨ ∃ i, i < m.objs.length ∧ i ≠ n ∧ ∃ k, k < (ob m i).fs.length ∧ isRef m (ob m i) k n))
end Go.Proofs.Ytbfmdbeeiicabaa.L20
namespace Go.Proofs.Ytbfmdbeeiicabaa.L20
open L02 L13 L18
end Go.Proofs.Ytbfmdbeeiicabaa.L20
namespace Go.Proofs.Ytbfmdbeeiicabaa.L20
open L02 L13 L18
def kidAt (m : Mo) (o : Ob) (i : Nat) : Option Nat := if ((ty m.types o).getD i 0).toNat = 3 ∧ 0 < (o.fs.getD i 0).toNat then some ((o.fs.getD i 0).toNat - 1) else none
def kidsTo (m : Mo) (o : Ob) (p : Nat) : List Nat := (List.range p).filterMap (kidAt m o)
def kids (m : Mo) (n : Nat) : List Nat := kidsTo m (ob m n) (ob m n).fs.length
/-- out is what is found, ord has been found, l is to be looked at -/
inductive Rs (m : Mo) : List Nat → List Nat → List Nat → Prop
  | nil (ord : List Nat) : Rs m ord [] ord
  | seen {ord l out : List Nat} {n : Nat} : n ∈ ord → Rs m ord l out → Rs m ord (n :: l) out
  | new {ord l out : List Nat} {n : Nat} : n ∉ ord → Rs m (ord ++ [n]) (kids m n ++ l) out → Rs m ord (n :: l) out
section
variable {m : Mo} {ord l out : List Nat}
theorem Rs.join {mid : List Nat} {a : List Nat} (h : Rs m ord a mid) : ∀ {b out}, Rs m mid b out → Rs m ord (a ++ b) out := by
  induction h with
  | nil ord => intro b out h; exact h
  | seen h1 _ ih => intro b out h; exact .seen h1 (ih h)
  | new h1 _ ih =>
    intro b out h
    have h2 := ih h
    rw [List.append_assoc] at h2
    exact .new h1 h2
theorem Rs.pre (h : Rs m ord l out) : ord <+: out := by
  induction h with
  | nil ord => exact List.prefix_refl _
  | seen _ _ ih => exact ih
  | new _ _ ih => exact (List.prefix_append _ _).trans ih
theorem Rs.all {p : Nat → Prop} (hk : ∀ n, p n → ∀ k ∈ kids m n, p k) (h : Rs m ord l out) : (∀ n ∈ ord, p n) → (∀ n ∈ l, p n) → ∀ n ∈ out, p n := by
  induction h with
  | nil ord => intro h _; exact h
  | seen _ _ ih => intro h1 h2; exact ih h1 fun n hn => h2 n (List.mem_cons_of_mem _ hn)
  | @new ord l out n _ _ ih =>
    intro h1 h2
    have hpn := h2 n List.mem_cons_self
    refine ih (fun x hx => ?_) fun x hx => ?_
    · rcases List.mem_append.1 hx with h | h
      · exact h1 x h
      · rw [List.mem_singleton.1 h]; exact hpn
    · rcases List.mem_append.1 hx with h | h
      · exact hk n hpn x h
      · exact h2 x (List.mem_cons_of_mem _ h)
end
/-- .. in so many steps -/
inductive Rn (m : Mo) : Nat → List Nat → List Nat → List Nat → Prop
  | nil (ord : List Nat) : Rn m 0 ord [] ord
  | seen {ord l out : List Nat} {n d : Nat} : n ∈ ord → Rn m d ord l out → Rn m (d + 1) ord (n :: l) out
  | new {ord l out : List Nat} {n d : Nat} : n ∉ ord → Rn m d (ord ++ [n]) (kids m n ++ l) out → Rn m (d + 1) ord (n :: l) out
theorem Rs.steps {m : Mo} {ord l out : List Nat} (h : Rs m ord l out) : ∃ d, Rn m d ord l out := by
  induction h with
  | nil ord => exact ⟨0, .nil _⟩
  | seen h1 _ ih => obtain ⟨d, h⟩ := ih; exact ⟨d + 1, .seen h1 h⟩
  | new h1 _ ih => obtain ⟨d, h⟩ := ih; exact ⟨d + 1, .new h1 h⟩
theorem Rn.rs {m : Mo} {ord l out : List Nat} {d : Nat} (h : Rn m d ord l out) : Rs m ord l out := by
  induction h with
  | nil ord => exact .nil _
  | seen h1 _ ih => exact .seen h1 ih
  | new h1 _ ih => exact .new h1 ih
theorem Rn.len {m : Mo} {ord l out : List Nat} {d : Nat} (h : Rn m d ord l out) : l.length ≤ d := by
  induction h with
  | nil ord => simp
  | seen h1 _ ih => simp; exact ih
  | new h1 _ ih => simp at ih ⊢; omega
theorem Rn.all {m : Mo} {p : Nat → Prop} (hk : ∀ n, p n → ∀ k ∈ kids m n, p k) {ord l out : List Nat} {d : Nat} (h : Rn m d ord l out) (h1 : ∀ n ∈ ord, p n) (h2 : ∀ n ∈ l, p n) : ∀ n ∈ out, p n := h.rs.all hk h1 h2
theorem Rn.end {m : Mo} {ord out : List Nat} {d : Nat} (h : Rn m d ord [] out) : out = ord := by cases h; rfl
end Go.Proofs.Ytbfmdbeeiicabaa.L20
namespace Go.Proofs.Ytbfmdbeeiicabaa.L20
open L02 L13 L18
/-- of the same types -/
def Like (m m' : Mo) : Prop := m'.types = m.types ∧ m'.objs.length = m.objs.length ∧ ∀ k, (ob m' k).ty = (ob m k).ty ∧ (ob m' k).fs.length = (ob m k).fs.length
theorem Like.refl (m : Mo) : Like m m := ⟨rfl, rfl, fun _ => ⟨rfl, rfl⟩⟩
section
variable {φ : UInt8 → UInt64 → UInt64} {m : Mo} {n i : Nat}
end
end Go.Proofs.Ytbfmdbeeiicabaa.L20
namespace Go.Proofs.Ytbfmdbeeiicabaa.L20
open L02 L13 L18
/-- the first j of a list changed -/
def mapT {α : Type} (f : α → α) (L : List α) (j : Nat) : List α := (L.take j).map f ++ L.drop j
section
variable {α : Type} {f : α → α} {L : List α} {k : Nat} {s : α}
theorem mapT_zero : mapT f L 0 = L := by simp [mapT]
theorem mapT_done (h : L.length ≤ k) : mapT f L k = L.map f := by simp [mapT, List.take_of_length_le h, List.drop_of_length_le h]
theorem mapT_len : (mapT f L k).length = L.length := by simp [mapT]; omega
theorem mapT_get (hs : L[k]? = some s) : (mapT f L k)[k]? = some s := by
  have hk : k < L.length := (List.getElem?_eq_some_iff.1 hs).1
  rw [mapT, List.getElem?_append_right (by simp; omega)]
  simp [Nat.min_eq_left (Nat.le_of_lt hk), hs]
theorem mapT_set (hs : L[k]? = some s) : (mapT f L k).set k (f s) = mapT f L (k + 1) := by
  have hk : k < L.length := (List.getElem?_eq_some_iff.1 hs).1
  have hd : L.drop k = s :: L.drop (k + 1) := by
    rw [List.drop_eq_getElem_cons hk]; congr 1
    rw [List.getElem?_eq_getElem hk] at hs; injection hs
  rw [mapT, mapT, List.take_add_one, hs, hd]
  rw [List.set_append_right _ _ (by simp; omega)]
  simp [Nat.min_eq_left (Nat.le_of_lt hk)]
theorem mapT_same (hs : L[k]? = some s) (hf : f s = s) : mapT f L (k + 1) = mapT f L k := by
  rw [← mapT_set hs, hf]
  apply List.ext_getElem?
  intro i
  by_cases hi : i = k
  · subst hi
    rw [List.getElem?_set_self (by rw [mapT_len]; exact (List.getElem?_eq_some_iff.1 hs).1), mapT_get hs]
  · rw [List.getElem?_set_ne (Ne.symm hi)]
end
section
variable {m : Mo} {q n i : Nat}
end
def sk (q w : Nat) : Nat := if w < q then w else w + 1
end Go.Proofs.Ytbfmdbeeiicabaa.L20
namespace Go.Proofs.Ytbfmdbeeiicabaa.L19
open L02 L07 L13 L14 L15 L16 L18 L20
theorem idx_app : ∀ {A B : List Hb} {a : Int}, idx (A ++ B) a = match idx A a with | some i => some i | none => (idx B a).map (· + A.length)
  | [], B, a => by
    show idx B a = (idx B a).map (· + 0)
    cases idx B a <;> rfl
  | b :: A, B, a => by
    rw [List.cons_append, idx, idx]
    by_cases h : b.at_ = a
    · rw [if_pos h, if_pos h]
    · rw [if_neg h, if_neg h, idx_app]
      cases idx A a with
      | some i => rfl
      | none =>
        cases idx B a with
        | none => rfl
        | some i => show some (i + A.length + 1) = some (i + (A.length + 1)); rfl
theorem refV_none {O : List Hb} {v : UInt64} (h : ¬ IsObj O v.toNat) : refV O v = 0 := by unfold refV; rw [idx_none.2 h]
theorem no_zero {l : List UInt64} (h : allErr l = 0) {O : List Hb} (hO : ∀ b ∈ O, 128 ≤ b.at_) : ¬ IsObj O (0 : UInt64).toNat := by
  rintro ⟨b, hb, e⟩
  have := hO b hb
  rw [e] at this
  simp at this
theorem objs_low {l : List UInt64} (h : allErr l = 0) : ∀ b ∈ O19 l, 128 ≤ b.at_ := fun b hb => by
  obtain ⟨a, h1, h2, _⟩ := objs_at h hb
  omega
theorem fldV_not {O : List Hb} {k : UInt8} {v : UInt64} (h : k.toNat ≠ 3) : fldV O k v = v := if_neg h
theorem fldV_ref {O : List Hb} {k : UInt8} {v : UInt64} (h : k.toNat = 3) : fldV O k v = refV O v := if_pos h
/-- images that are the same in front of the heap -/
structure Front (l l' : List UInt64) : Prop where
  len : l'.length = l.length
  take : l'.take 128 = l.take 128
section
variable {l l' : List UInt64}
theorem Front.get (h : Front l l') {i : Nat} (hi : i < 128) : l'.getD i 0 = l.getD i 0 := by
  rw [List.getD_eq_getElem?_getD, List.getD_eq_getElem?_getD, ← List.getElem?_take_of_lt hi, h.take, List.getElem?_take_of_lt hi]
theorem Front.part (h : Front l l') {a n : Nat} (ha : a + n ≤ 128) : (l'.drop a).take n = (l.drop a).take n := by
  have e : ∀ m : List UInt64, (m.drop a).take n = ((m.take 128).drop a).take n := fun m => by
    rw [List.drop_take, List.take_take, Nat.min_eq_left (by omega)]
  rw [e l', e l, h.take]
theorem Front.super (h : Front l l') : rErr l' = rErr l ∧ sT l' = sT l := by
  have h0 : c0 l' = c0 l := by have := h.part (a := 0) (n := 8) (by omega); rwa [List.drop_zero, List.drop_zero] at this
  have h1 : c1 l' = c1 l := h.part (a := 8) (n := 8) (by omega)
  have e0 : is0 l' = is0 l := by unfold is0; rw [h0, h.len]
  have e1 : is1 l' = is1 l := by unfold is1; rw [h1, h.len]
  have e2 : rErr l' = rErr l := by unfold rErr; rw [e0, e1, h.len]
  exact ⟨e2, by unfold sT one; rw [e2, e0, h0, h1]⟩
theorem Front.zr (h : Front l l') {a : Nat} (ha : a + 8 ≤ 128) : Zr l' a ↔ Zr l a := by
  unfold Zr
  constructor <;> intro hh i hi <;> have := hh i hi <;> rw [h.get (by omega)] at * <;> exact this
theorem Front.tab (h : Front l l') (n : Int) : tabErr l' n = tabErr l n ∧ tabT l' n = tabT l n := by
  have e0 : ∀ i, i < 8 → ta l' i = ta l i ∧ tb l' i = tb l i := fun i hi => by unfold ta tb; exact ⟨h.get (by omega), h.get (by omega)⟩
  have e : ∀ k, TysOk l' k ↔ TysOk l k := fun k => by
    unfold TysOk
    constructor <;> intro hh i hi <;> have := hh i hi <;> unfold TyOk at * <;> rw [(e0 i hi).1, (e0 i hi).2] at * <;> exact this
  have e2 : tabErr l' n = tabErr l n := by unfold tabErr; rw [h.len]; simp only [e]
  refine ⟨e2, ?_⟩
  unfold tabT
  rw [e2]
  by_cases h0 : tabErr l n = 0
  · rw [if_pos h0, if_pos h0]
    have hn : n.toNat ≤ 8 := by
      unfold tabErr at h0
      split at h0
      · split at h0
        · omega
        · omega
      · omega
    unfold tysTo
    refine List.map_congr_left fun i hi => ?_
    have := List.mem_range.1 hi
    rw [(e0 i (by omega)).1, (e0 i (by omega)).2]
  · rw [if_neg h0, if_neg h0]
theorem Front.open_ (h : Front l l') : openErr l' = openErr l ∧ slots l' = slots l := by
  have e : ws l' = ws l := h.part (a := 112) (n := 16) (by omega)
  refine ⟨?_, by unfold slots; rw [e]⟩
  have e2 : AllR l' ↔ AllR l := by unfold AllR; rw [e]
  unfold openErr; rw [h.len]; simp only [e2]
theorem Front.types (h : Front l l') : T19 l' = T19 l := by unfold T19; rw [h.super.2, (h.tab _).2]
/-- a right image whose heap is written anew -/
theorem Front.rt (f : Front l l') (h : Rt l) (ha : allErr l' = 0) (hg : ∀ b ∈ O19 l', Idle b ∧ Typed (T19 l) b ∧ Padded l' (T19 l) b ∧ FloatsB l' (T19 l) b ∧ RefsB l' (T19 l) (O19 l') b) (hs : SlotsGood (slots l) (O19 l')) : Rt l' := by
  refine ⟨by rw [f.len]; exact h.sz, f.super.1.trans h.tw, (f.zr (by omega)).2 h.z16, (f.zr (by omega)).2 h.z24, by rw [f.super.2, (f.tab _).1]; exact h.ty, f.open_.1.trans h.sl, ha, ?_, by rw [f.open_.2]; exact hs⟩
  intro i h1 h2 b hb
  rw [f.types]
  obtain ⟨g1, g2, g3, g4, g5⟩ := hg b hb
  rcases (show i = 7 ∨ i = 8 ∨ i = 9 ∨ i = 10 ∨ i = 11 by omega) with rfl | rfl | rfl | rfl | rfl
  · exact g1
  · exact g2
  · exact g3
  · exact g4
  · exact g5
theorem Front.refl (l : List UInt64) : Front l l := ⟨rfl, rfl⟩
theorem Front.trans {m : List UInt64} (h : Front l l') (h2 : Front l' m) : Front l m := ⟨h2.len.trans h.len, h2.take.trans h.take⟩
end
end Go.Proofs.Ytbfmdbeeiicabaa.L19
namespace Go.Proofs.Ytbfmdbeeiicabaa
open Go.RowKit L01 L02 L05 L06 L07 L13 L14 L15 L16 L18 L19
end Go.Proofs.Ytbfmdbeeiicabaa
namespace Go.Proofs.Ytbfmdbeeiicabaa
open Go.RowKit L01 L02 L05 L06 L07 L13 L14 L15 L16 L18 L19
set_option maxRecDepth 100000 in
theorem SlotsR_any (v : Value) (l : List UInt64) (hs : SizeOk l.length) (L : List Sl) (hL : L = all l) (w : World) (h : Words w v l) :
    Calls Try.prog 48 #[v] w fun e w' => ∃ x, e = .returned x ∧ OwnS w' w.heap.size 68 x L ∧ Below w.heap.size w w' := by
  have T := Lib.hid (ToldR_any v l hs L _ hL rfl w h)
  clear hL h hs
  go_enter Try.func48, Try.ntmps48
  go_wp2_with fail
  refine T.out.mono ?_
  rintro e w2 ⟨x, rfl, o, b⟩
  have HO := Lib.hid (And.intro o b)
  clear o b
  go_wp2
  go_ret
  exact ⟨_, rfl, HO.out⟩
/-- the heap is one free extent -/
def whole (L : List Hb) : Bool := match L with | [b] => decide (b.kind = 2) | _ => false
end Go.Proofs.Ytbfmdbeeiicabaa
namespace Go.Proofs.Ytbfmdbeeiicabaa
open Go Go.RowKit
section
variable {P : Program} {ops : Array Oper} {w : World}
theorem wpStill_of_quiet {Q : Act → Prop} : ∀ (l : List Oper) (a : Act), wpQuiet P ops (fun W => W = w) Q l a → wpStill P ops w Q l a
  | [], a, h => h
  | o :: l, a, h => by
    unfold wpQuiet at h
    unfold wpStill
    by_cases hw : Region.wanted o (yielded ops a.tmps) = true
    · rw [if_pos hw] at h ⊢
      obtain ⟨v, h1, h2⟩ := h
      have h3 := h1 w rfl
      have h4 := wpStill_of_quiet l _ h2
      unfold Oper.quietAt at h3
      unfold Oper.still
      cases hr : (execOp a.eval o).run P w with
      | ok n w' =>
        rw [hr] at h3
        cases n with
        | value u => obtain ⟨e1, e2⟩ := h3; subst e2; exact ⟨e1, h4⟩
        | skip => obtain ⟨e1, e2⟩ := h3; subst e2; exact ⟨e1, h4⟩
        | enter f args => obtain ⟨e1, e2⟩ := h3; exact ⟨e1, v, e2, h4⟩
        | _ => exact absurd h3 id
      | halt x w' => rw [hr] at h3; exact absurd h3 id
    · rw [if_neg hw] at h ⊢
      exact wpStill_of_quiet l _ h
theorem wp_region_qtail {id : Nat} {Q : Exit → Act → World → Prop} {a : Act} {l : List Oper} (n : Nat) (hm : P.follows .mixedOrders = true) (hB : Region.lexTailB .any l.toArray n = true)
    (h : wpQuiet P l.toArray (fun W => W = w.drew) (fun a' => wpList P l.toArray Q (l.drop n) a' w.drew) (l.take n) a) : (Code.region id l.toArray true).wp P Q a w :=
  wp_region_still_tail n hm hB (wpStill_of_quiet _ _ h)
end
end Go.Proofs.Ytbfmdbeeiicabaa
namespace Go.Proofs.Ytbfmdbeeiicabaa
open Go.RowKit L01 L02 L05 L06 L07 L13 L14 L15 L18 L19 L20
theorem idxI_rng {O : List Hb} {a : Int} (h : O.length ≤ 960) : -1 ≤ idxI O a ∧ idxI O a ≤ 960 := by
  unfold idxI
  cases h2 : idx O a with
  | none => exact ⟨Int.le_refl _, by decide⟩
  | some i =>
    obtain ⟨b, h3, _⟩ := idx_some h2
    have := (List.getElem?_eq_some_iff.1 h3).1
    show -1 ≤ (i : Int) ∧ (i : Int) ≤ 960
    exact ⟨by omega, by omega⟩
theorem refV_idxI {O : List Hb} {v : UInt64} (h : O.length ≤ 960) : ((refV O v).toNat : Int) = idxI O v.toNat + 1 := by
  unfold refV idxI
  cases h2 : idx O v.toNat with
  | none => simp
  | some i =>
    obtain ⟨b, h3, _⟩ := idx_some h2
    have := (List.getElem?_eq_some_iff.1 h3).1
    show ((UInt64.ofNat (i + 1)).toNat : Int) = (i : Int) + 1
    rw [UInt64.toNat_ofNat', Nat.mod_eq_of_lt (by omega)]; omega
theorem slOf_used {O : List Hb} {s : Sl} (h : s.used = true) : slOf O s = ⟨s.gen, true, idxI O s.at_⟩ := by
  unfold slOf; rw [if_pos h]; rfl
theorem slOf_not {O : List Hb} {s : Sl} (h : s.used = false) : slOf O s = s := by unfold slOf; rw [h]; rfl
theorem obFs_take {l : List UInt64} {T : List (List UInt8)} {O : List Hb} {b : Hb} {p : Nat} {k : UInt8} {v : UInt64} (hp : p < (kindsB T b).length) (hk : (kindsB T b).getD p 0 = k) (hv : fw l b p = v) : (obFs l T O b).take (p + 1) = (obFs l T O b).take p ++ [fldV O k v] := by
  rw [List.take_add_one, obFs_get hp, hk, hv]; rfl
theorem form_T {w : World} {B : Nat} {v : Value} {L : List (List UInt8)} (h : OwnT w B v L) : ∃ A n c, v = .slice A n c := by
  obtain ⟨vs, _, h2, _⟩ := h
  obtain ⟨A, c, e⟩ := own_form' h2
  exact ⟨A, _, c, e⟩
set_option maxRecDepth 100000 in
set_option maxHeartbeats 16000000 in
theorem SeenR_any (v : Value) (l : List UInt64) (rt : Rt l) (w : World) (h : Words w v l) :
    Calls Try.prog 81 #[v] w fun e w' => ∃ t' o' s', e = .returned (.agg #[t', o', s']) ∧ OwnM w' w.heap.size 68 t' o' s' (L19.seen l) ∧ Below w.heap.size w w' := by
  have B : Below w.heap.size w w := Below.refl _ _
  obtain ⟨T, hT⟩ : ∃ T, T = T19 l := ⟨_, rfl⟩
  obtain ⟨S, hS⟩ : ∃ S, S = slots l := ⟨_, rfl⟩
  obtain ⟨L, hL⟩ : ∃ L, L = allL l := ⟨_, rfl⟩
  obtain ⟨O, hO⟩ : ∃ O, O = O19 l := ⟨_, rfl⟩
  have hOL : O = objs L := by rw [hO, hL]; rfl
  have TT := Lib.hid (fun w h => TypesR19_any v l rt.sz T true (by rw [eq_comm, decide_eq_true_iff]; exact ⟨rt.tw, rt.ty⟩) (by rw [hT]; rfl) w h)
  have LT := Lib.hid (fun w h => ParsedR_any v l rt.sz L true hL (by rw [eq_comm, decide_eq_true_iff]; exact rt.al) w h)
  have OT := Lib.hid (fun x w (h : Blks w x L) => objsR_any x L O hOL w h (by rw [hL]; have := all_len rt.al; omega))
  have ST := Lib.hid (fun w h => SlotsR_any v l rt.sz S (by rw [hS, all, if_pos rt.sl]) w h)
  have hO9 : O.length ≤ 960 := by rw [hO]; exact objs_len rt.al
  have hOb : ∀ b ∈ O, 0 ≤ b.at_ ∧ b.at_ ≤ 1000000 := fun b hb => by
    rw [hO] at hb
    obtain ⟨a, h1, h2, h3, h4, _⟩ := objs_at rt.al hb
    have := rt.sz.2.1
    omega
  have IT := Lib.hid (fun (x : Value) (a : UInt64) (r : Int) (hr : r = idxI O a.toNat) w (h : Blks w x O) => idxR_any x O a r hr hOb (by omega) w h)
  have hS16 : S.length = 16 := by rw [hS]; exact slots_len' rt.sl
  obtain ⟨NO, hNO⟩ : ∃ N, N = O.length := ⟨_, rfl⟩
  have hNO2 : NO ≤ 960 := by omega
  have H := Lib.hid h; have HRT := Lib.hid rt; have HT := Lib.hid hT; have HS := Lib.hid hS; have HO := Lib.hid hO; have HNO := Lib.hid hNO; have HO9 := Lib.hid hO9; have HS16 := Lib.hid hS16
  clear h rt hT hS hL hO hOL hO9 hOb hS16 hNO
  go_enter Try.func81, Try.ntmps81
  go_upto_region 1 with (fail)
  refine wp_gen (fun Wv => Bx Wv (w.heap.size) (79) (#[.slice none 0 0, .slice none 0 0, .slice none 0 0]) ∧ Below w.heap.size w Wv) ⟨((Bx.at_ (by simp))), ((Below.refl _ w).alloc (by simp <;> omega) _)⟩ ?_
  rintro wa1 ⟨g3, b⟩
  replace B := B.trans (b.mono B.size); clear b
  have c_g3 := g3.cell; have f_g3 := g3.free; have a_g3 := fun o => (g3.alloc o).cell; have d_g3 := fun o o2 => ((g3.alloc o).alloc o2).cell; have e_g3 := fun o => (g3.alloc o).free
  have hz1 := B.size; have hp3 := g3.lt
  go_wp2_with fail
  refine (TT.out _ (H.out.below B)).mono ?_
  rintro e wa2 ⟨xt, rfl, ot, b⟩
  try clear c_g3 f_g3 a_g3 d_g3 e_g3
  replace g3 := g3.below b; have c_g3 := g3.cell; have f_g3 := g3.free; have a_g3 := fun o => (g3.alloc o).cell; have d_g3 := fun o o2 => ((g3.alloc o).alloc o2).cell; have e_g3 := fun o => (g3.alloc o).free; replace B := B.trans (b.mono B.size); clear b
  obtain ⟨tA, tn, tc, rfl⟩ := form_T ot
  have oT : OwnT wa2 w.heap.size (.slice tA tn tc) T := ot.mono hz1
  clear ot
  have hz2 := B.size
  go_wp2_with fail
  refine (LT.out _ (H.out.below B)).mono ?_
  rintro e wa3 ⟨xl, rfl, ol, b⟩
  try clear c_g3 f_g3 a_g3 d_g3 e_g3
  replace g3 := g3.below b; have c_g3 := g3.cell; have f_g3 := g3.free; have a_g3 := fun o => (g3.alloc o).cell; have d_g3 := fun o o2 => ((g3.alloc o).alloc o2).cell; have e_g3 := fun o => (g3.alloc o).free; replace oT := oT.below b; replace B := B.trans (b.mono B.size); clear b
  have hz3 := B.size
  go_wp2_with fail
  refine (OT.out _ _ ol.rd).mono ?_
  rintro e wa4 ⟨xo, rfl, ok, b⟩
  try clear c_g3 f_g3 a_g3 d_g3 e_g3
  replace g3 := g3.below b; have c_g3 := g3.cell; have f_g3 := g3.free; have a_g3 := fun o => (g3.alloc o).cell; have d_g3 := fun o o2 => ((g3.alloc o).alloc o2).cell; have e_g3 := fun o => (g3.alloc o).free; replace oT := oT.below b; replace ol := ol.below b; replace B := B.trans (b.mono B.size); clear b
  obtain ⟨oA, on, oc, rfl⟩ : ∃ A n c, xo = .slice A n c := row_form ok
  have oK : OwnK wa4 w.heap.size (.slice oA on oc) O := ok.mono (by omega)
  clear ok
  have hz4 := B.size
  clear ol
  go_wp2_with fail
  refine (ST.out _ (H.out.below B)).mono ?_
  rintro e wa5 ⟨xs, rfl, os, b⟩
  try clear c_g3 f_g3 a_g3 d_g3 e_g3
  replace g3 := g3.below b; have c_g3 := g3.cell; have f_g3 := g3.free; have a_g3 := fun o => (g3.alloc o).cell; have d_g3 := fun o o2 => ((g3.alloc o).alloc o2).cell; have e_g3 := fun o => (g3.alloc o).free; replace oT := oT.below b; replace oK := oK.below b; replace B := B.trans (b.mono B.size); clear b
  obtain ⟨gS, sc, rfl⟩ : ∃ g c, xs = .slice (some ⟨g, 0, none⟩) 16 c := by obtain ⟨g, n, c, e, e2⟩ := os.form (by rw [HS16.out]; omega); rw [e2, HS16.out] at e; exact ⟨g, c, e⟩
  have oS : OwnS wa5 w.heap.size 68 (.slice (some ⟨gS, 0, none⟩) 16 sc) S := own_mono os hz4
  clear os
  have hlt5 := g3.lt
  go_upto_region 5 with (fail)
  refine wp_gen (fun Wv => Bx Wv (wa5.heap.size) (79) (#[.slice tA tn tc, .slice none 0 0, .slice (some ⟨gS, 0, none⟩) 16 sc]) ∧ Below wa5.heap.size wa5 Wv) ⟨((Bx.at_ (by simp))), ((Below.refl _ wa5).alloc (by simp <;> omega) _)⟩ ?_
  rintro wa6 ⟨g5, b⟩
  try clear c_g3 f_g3 a_g3 d_g3 e_g3
  replace g3 := g3.below b; have c_g3 := g3.cell; have f_g3 := g3.free; have a_g3 := fun o => (g3.alloc o).cell; have d_g3 := fun o o2 => ((g3.alloc o).alloc o2).cell; have e_g3 := fun o => (g3.alloc o).free; replace oT := oT.below b; replace oK := oK.below b; replace oS := oS.below b; replace B := B.trans (b.mono B.size); clear b
  have c_g5 := g5.cell; have f_g5 := g5.free; have a_g5 := fun o => (g5.alloc o).cell; have d_g5 := fun o o2 => ((g5.alloc o).alloc o2).cell; have e_g5 := fun o => (g5.alloc o).free
  have hz5 := B.size
  generalize hpp : wa5.heap.size = p5 at *
  have hp5 : w.heap.size + 1 ≤ p5 := by omega
  have HZ := Lib.hid (show OwnT wa6 w.heap.size (.slice tA tn tc) T ∧ OwnO wa6 w.heap.size (.slice none 0 0) ((O.map (obOf l T O)).take 0) ∧ OwnS wa6 w.heap.size 68 (.slice (some ⟨gS, 0, none⟩) 16 sc) S ∧ OwnK wa6 w.heap.size (.slice oA on oc) O ∧ Bx wa6 w.heap.size 79 #[.slice none 0 0, .slice none 0 0, .slice none 0 0] ∧ Bx wa6 p5 79 #[.slice tA tn tc, .slice none 0 0, .slice (some ⟨gS, 0, none⟩) 16 sc] ∧ Below w.heap.size w wa6 from ⟨oT, OwnO.nil _ _, oS, oK, g3, g5, B⟩)
  clear oT oS oK g3 g5 B c_g3 f_g3 a_g3 d_g3 e_g3 c_g5 f_g5 a_g5 d_g5 e_g5 hpp hz1 hz2 hz3 hz4 hz5 hlt5 hp3
  have lo0 := HZ.out.2.2.2.1.rd.len
  rw [← HNO.out] at lo0
  go_wp2
  go_loopg [9] NO (fun g i wr => ∃ j : Nat, j ≤ NO ∧ g = NO - j ∧ i = .int .i64 j ∧ Hid (∃ ov2, OwnT wr w.heap.size (.slice tA tn tc) T ∧ OwnO wr w.heap.size ov2 ((O.map (obOf l T O)).take j) ∧ OwnS wr w.heap.size 68 (.slice (some ⟨gS, 0, none⟩) 16 sc) S ∧ OwnK wr w.heap.size (.slice oA on oc) O ∧ Bx wr w.heap.size 79 #[.slice none 0 0, .slice none 0 0, .slice none 0 0] ∧ Bx wr p5 79 #[.slice tA tn tc, ov2, .slice (some ⟨gS, 0, none⟩) 16 sc] ∧ Below w.heap.size w wr))
  case atStart => exact ⟨0, by omega, by omega, rfl, Lib.hid ⟨_, HZ.out⟩⟩
  case round =>
    clear HZ
    obtain ⟨j, hj, rfl, rfl, hh⟩ := hrel
    by_cases hlt : j < NO
    · obtain ⟨ov2, oT, oO, oS, oK, g3, g5, B⟩ := hh.out
      obtain ⟨wn, hwn⟩ : ∃ W, W = wr := ⟨_, rfl⟩
      subst hwn
      have hB0 := B.size
      obtain ⟨bb, oo, b0, ia, m0, _, _, m3, _, _, hb0, _⟩ := oK.rd.at_ (k := j) (by rw [← HNO.out]; exact hlt)
      have hbO : b0 ∈ O19 l := by rw [← HO.out]; exact List.mem_of_getElem? hb0.out
      have hty : Typed T b0 := by rw [HT.out]; exact HRT.out.good 8 (by omega) (by omega) b0 hbO
      obtain ⟨a, q, t, ha, hq, hTq, hkB, _, hle, _⟩ := in_kinds (in19_of HRT.out.al hbO) hty
      have hqT := (List.getElem?_eq_some_iff.1 hTq).1
      obtain ⟨nf, hnf⟩ : ∃ N, N = t.length := ⟨_, rfl⟩
      have hkE : kErr t = 0 := by rw [HT.out] at hTq; exact (T19_ok HRT.out.ty).2 t (List.mem_of_getElem? hTq)
      have hnf8 : nf ≤ 8 := by rw [hnf]; exact (kErr_ok hkE).1
      rw [← hnf] at hle
      have hl2 := HRT.out.sz.2.1
      have HB0 := Lib.hid hb0.out; have HTQ := Lib.hid hTq; have HKB := Lib.hid hkB; have HNF := Lib.hid hnf; have HLE := Lib.hid hle; have HQT := Lib.hid hqT
      have HA := Lib.hid (And.intro ha hq)
      rw [hq] at m3
      have ha5 : a ≤ 100000 := by omega
      clear hb0 hbO hty ha hq hTq hkB hle hqT hnf hkE hl2 hh
      have HG := Lib.hid (And.intro oT (And.intro oO (And.intro oS (And.intro oK (And.intro g3 (And.intro g5 B))))))
      clear oT oO oS oK g3 g5
      go_upto_region 9 with (fail)
      refine wp_gen (fun Wv => Bx Wv wn.heap.size 136 #[.int .i64 q, .slice none 0 0] ∧ Below wn.heap.size wn Wv) ⟨Bx.at_ (by simp), (Below.refl _ wn).alloc (by simp) _⟩ ?_
      rintro wa ⟨g8, b⟩
      have G8 := Lib.hid (And.intro g8 b)
      clear g8 b m0 m3 B ia
      go_wp2
      go_loopg [11] nf (fun g i wr2 => ∃ p : Nat, p ≤ nf ∧ g = nf - p ∧ i = .int .i64 p ∧ Hid (∃ y, OwnW wr2 wn.heap.size 34 y ((obFs l T O b0).take p) ∧ Bx wr2 wn.heap.size 136 #[.int .i64 q, y] ∧ Below wn.heap.size wn wr2))
      case atStart => exact ⟨0, by omega, by omega, rfl, Lib.hid ⟨_, OwnW.nil _ _ _, G8.out.1, G8.out.2⟩⟩
      case round =>
        clear G8
        obtain ⟨p, hp, rfl, rfl, hh2⟩ := hrel
        obtain ⟨y, oy, g8, b⟩ := hh2.out
        obtain ⟨yA, yn, yc, rfl⟩ : ∃ A n c, y = .slice A n c := by obtain ⟨A, c, e⟩ := own_form' oy; exact ⟨A, _, c, e⟩
        have B2 := HG.out.2.2.2.2.2.2.trans (b.mono hB0)
        have c_g8 := g8.cell
        obtain ⟨ad, yt, t2, iy, m3, ht2, hby⟩ := (HG.out.1.rd.below b).at_ HQT.out
        obtain rfl : t2 = t := by have := ht2.out; rw [HTQ.out] at this; injection this with e; exact e.symm
        have lx := Rd.len hby.out Try.underlying44
        rw [← HNF.out] at lx
        clear hh2 ht2
        by_cases hltp : p < nf
        · obtain ⟨bd, kk, ib, m4, hkk⟩ := hby.out.at_ (P := Try.prog) Try.underlying44 one_u8 (k := p) (by rw [← HNF.out]; exact hltp)
          obtain ⟨bb, oo, b1, ia, m0, _, _, _, _, _, hb1, _⟩ := (HG.out.2.2.2.1.rd.below b).at_ (k := j) (by rw [← HNO.out]; exact hlt)
          obtain rfl : b1 = b0 := by have := hb1.out; rw [HB0.out] at this; injection this with e; exact e.symm
          rw [HA.out.1] at m0
          obtain ⟨cd, v5, ic, m5, hv⟩ := (H.out.below B2).at_ (P := Try.prog) Try.underlying22 one_u64 (k := a + 2 + p) (by have := HLE.out; omega)
          have ic2 : ∀ W, (Instr.indexAt 22 v (.int .i64 ((a : Int) + 2 + (p : Int)))).run Try.prog W = .ok (.pointer (some cd)) W := ic
          have w1 : IntKind.i64.wrap ((a : Int) + 2) = (a : Int) + 2 := IntWalk.i64_in _ (by omega)
          have w2 : IntKind.i64.wrap ((a : Int) + 2 + (p : Int)) = (a : Int) + 2 + (p : Int) := IntWalk.i64_in _ (by omega)
          have hkk' : (kindsB T b1).getD p 0 = kk := by rw [HKB.out, List.getD_eq_getElem?_getD, hkk.out]; rfl
          have hfw : fw l b1 p = v5 := by unfold fw; rw [HA.out.1, Int.toNat_natCast, List.getD_eq_getElem?_getD, hv.out]; rfl
          have HTK := Lib.hid (obFs_take (O := O) (by rw [HKB.out, ← HNF.out]; exact hltp) hkk' hfw)
          have HLK := Lib.hid (show ((obFs l T O b1).take p).length = p by rw [List.length_take, obFs_len, HKB.out, ← HNF.out]; omega)
          have OY := Lib.hid oy; have BB := Lib.hid b; have G8 := Lib.hid g8
          clear hby hkk hv oy ic hb1 hkk' hfw
          by_cases h3 : kk.toNat = 3
          · have k3 : ((kk.toNat : Int) == 3) = true := by rw [beq_iff_eq]; omega
            obtain ⟨r, hr⟩ : ∃ r, r = idxI O v5.toNat := ⟨_, rfl⟩
            have hrr := idxI_rng (a := v5.toNat) HO9.out
            rw [← hr] at hrr
            have HV := Lib.hid (show Go.Proofs.Ytbfmdbeeiicabaa.u64 (fldV O kk v5) = .int .u64 (r + 1) by rw [Go.Proofs.Ytbfmdbeeiicabaa.u64, fldV_ref h3, refV_idxI HO9.out, hr])
            have z3 : IntKind.i64.wrap (r + 1) = r + 1 := IntWalk.i64_in _ (by omega)
            have z4 : IntKind.u64.wrap (r + 1) = r + 1 := by show (r + 1) % 18446744073709551616 = _; omega
            have II := Lib.hid (fun w h => IT.out (.slice oA on oc) v5 r hr w h)
            have KB := Lib.hid (HG.out.2.2.2.1.rd.below b)
            clear hr hrr h3 b
            go_wp2_with fail
            refine (II.out _ KB.out).mono ?_
            rintro e wz ⟨rfl, rfl⟩
            go_upto_region 15 with (fail)
            go_wp2_with (at_builtin; refine wpList_append (by rfl) rfl rfl rfl Try.underlying22 info_u64 rfl (by omega) (by exact own_below OY.out ((Below.refl _ wr).alloc (Nat.le_refl _) _)) (by exact lit_rd) (by simp [Value.oneCell']) (by rw [HLK.out]; omega) (by rw [HLK.out]; omega) (by exact BB.out.alloc BB.out.size _) (Nat.le_refl _) ?_; intro v1 w3 oo3 B3 g3'; obtain ⟨vA, vn1, vc, rfl⟩ : ∃ A n c, v1 = .slice A n c := by { obtain ⟨A, c, e⟩ := own_form' oo3; exact ⟨A, _, c, e⟩ }; have q8 := Bx.grown (G8.out.below ((Below.refl _ wr).alloc (Nat.le_refl _) (.cells #[.int .u64 (r + 1)] 34))) g3' (own_not_bx (own_below OY.out ((Below.refl _ wr).alloc (Nat.le_refl _) (.cells #[.int .u64 (r + 1)] 34))) (G8.out.below ((Below.refl _ wr).alloc (Nat.le_refl _) (.cells #[.int .u64 (r + 1)] 34))) (by decide)); have c8 := q8.cell; have f8 := q8.free)
            have HQ8 := Lib.hid (And.intro q8 (And.intro oo3 B3))
            clear q8 c8 f8 oo3 B3 g3' g8 c_g8 lx
            go_roundg (nf - (p + 1))
            case measure => omega
            case rel =>
              obtain ⟨q8, oo3, B3⟩ := HQ8.out
              refine ⟨p + 1, by omega, rfl, by go_num, Lib.hid ⟨_, own_set (OwnW.of (l := (obFs l T O b1).take (p + 1)) oo3 ?_) q8 (by decide), ?_, B3.setCell (p := ⟨wn.heap.size, 1, none⟩) (Nat.le_refl _) _⟩⟩
              · rw [HTK.out, List.map_append, ← HV.out]; rfl
              · have := q8.set (i := 1) (.slice vA vn1 vc)
                simpa using this
          · have k3 : ((kk.toNat : Int) == 3) = false := by rw [beq_eq_false_iff_ne]; omega
            obtain ⟨vn, hvn⟩ : ∃ q, q = v5.toNat := ⟨_, rfl⟩
            rw [← hvn] at m5
            have HV := Lib.hid (show Go.Proofs.Ytbfmdbeeiicabaa.u64 (fldV O kk v5) = .int .u64 vn by rw [fldV_not h3, Go.Proofs.Ytbfmdbeeiicabaa.u64, hvn])
            clear hvn h3 b
            go_upto_region 15 with (fail)
            go_wp2_with (at_builtin; refine wpList_append (by rfl) rfl rfl rfl Try.underlying22 info_u64 rfl (by omega) (by exact own_below OY.out ((Below.refl _ wr).alloc (Nat.le_refl _) _)) (by exact lit_rd) (by simp [Value.oneCell']) (by rw [HLK.out]; omega) (by rw [HLK.out]; omega) (by exact BB.out.alloc BB.out.size _) (Nat.le_refl _) ?_; intro v1 w3 oo3 B3 g3'; obtain ⟨vA, vn1, vc, rfl⟩ : ∃ A n c, v1 = .slice A n c := by { obtain ⟨A, c, e⟩ := own_form' oo3; exact ⟨A, _, c, e⟩ }; have q8 := Bx.grown (G8.out.below ((Below.refl _ wr).alloc (Nat.le_refl _) (.cells #[.int .u64 (vn : Int)] 34))) g3' (own_not_bx (own_below OY.out ((Below.refl _ wr).alloc (Nat.le_refl _) (.cells #[.int .u64 (vn : Int)] 34))) (G8.out.below ((Below.refl _ wr).alloc (Nat.le_refl _) (.cells #[.int .u64 (vn : Int)] 34))) (by decide)); have c8 := q8.cell; have f8 := q8.free)
            have HQ8 := Lib.hid (And.intro q8 (And.intro oo3 B3))
            clear q8 c8 f8 oo3 B3 g3' g8 c_g8 lx
            go_roundg (nf - (p + 1))
            case measure => omega
            case rel =>
              obtain ⟨q8, oo3, B3⟩ := HQ8.out
              refine ⟨p + 1, by omega, rfl, by go_num, Lib.hid ⟨_, own_set (OwnW.of (l := (obFs l T O b1).take (p + 1)) oo3 ?_) q8 (by decide), ?_, B3.setCell (p := ⟨wn.heap.size, 1, none⟩) (Nat.le_refl _) _⟩⟩
              · rw [HTK.out, List.map_append, ← HV.out]; rfl
              · have := q8.set (i := 1) (.slice vA vn1 vc)
                simpa using this
        · obtain rfl : p = nf := by omega
          have hfs : (obFs l T O b0).take p = obFs l T O b0 := by rw [List.take_of_length_le]; rw [obFs_len, HKB.out, ← HNF.out]; exact Nat.le_refl _
          rw [hfs] at oy
          obtain ⟨oT, oO, oS, oK, g3, g5, B⟩ := HG.out
          obtain ⟨oA2, on2, oc2, rfl⟩ : ∃ A n c, ov2 = .slice A n c := by obtain ⟨vs, z1, z2, _⟩ := oO; obtain ⟨A, c, e⟩ := own_form' z2; exact ⟨A, _, c, e⟩
          obtain ⟨vs, z1, z2, z4, z5⟩ := oO
          have c5 := (g5.below b).cell
          have ba := b.alloc b.size (.cells #[.int .i64 (q : Int), .slice yA yn yc] 136)
          have hoy : OwnW wr wn.heap.size 34 (.slice yA yn yc) (obOf l T O b0).fs := oy
          have hqq : (obOf l T O b0).ty = (q : Int) := HA.out.2
          have HAA := Lib.hid (And.intro z1 (And.intro z2 (And.intro z4 (And.intro z5 (And.intro oT (And.intro oS (And.intro g3 (And.intro g5 (And.intro B (And.intro hoy (And.intro b (And.intro ba (And.intro g8 oK)))))))))))))
          have hL1 : ((O.map (obOf l T O)).take j).length ≤ 960 := by rw [List.length_take, List.length_map]; have := HO9.out; omega
          clear z1 z4 z5 oT oS oK g3 g5 B oy b g8 hoy
          have Z2 := Lib.hid (own_below z2 ba); have BA := Lib.hid ba
          clear z2 ba hfs
          have hqqH := Lib.hid hqq; have HL1 := Lib.hid hL1
          clear hqq hL1
          go_upto_region 16 with (fail)
          clear m3 iy lx hby
          go_wp2_with (at_builtin; refine wpList_append (by rfl) rfl rfl rfl Try.underlying77 info_obj rfl (by omega) (by exact Z2.out) (by exact lit_obj) (by exact one_obj rfl) (by have := HL1.out; omega) (by have := HL1.out; omega) (by exact HAA.out.2.2.2.2.2.2.2.2.1.trans (BA.out.mono hB0)) (by omega) ?_; intro v1 w3 oo3 B3 g3'; obtain ⟨vA, vn1, vc, rfl⟩ : ∃ A n c, v1 = .slice A n c := by { obtain ⟨A, c, e⟩ := own_form' oo3; exact ⟨A, _, c, e⟩ }; have MM := Lib.hid (copyO_mem (o := obOf l T O b0) (a := w.heap.size) (b := w.heap.size) (p := p5) HAA.out.1 HAA.out.2.1 HAA.out.2.2.1 HAA.out.2.2.2.1 HAA.out.2.2.2.2.2.2.2.2.2.1 HAA.out.2.2.2.2.2.2.2.2.2.2.1 (by rw [hqqH.out]; exact oo3) (by rw [hqqH.out]; exact g3') HAA.out.2.2.2.2.2.2.1 HAA.out.2.2.2.2.2.2.1 HAA.out.2.2.2.2.2.2.2.1 HAA.out.2.2.2.2.1 HAA.out.2.2.2.2.2.1 HAA.out.2.2.2.2.2.2.2.2.1 hB0 (by omega) (by omega) (by omega) HAA.out.2.2.2.2.2.2.1 (own_not_bx HAA.out.2.1 HAA.out.2.2.2.2.2.2.1 (by decide)) (by omega)); have KK := Lib.hid (own_set (World.ownsRow.kept (own_below HAA.out.2.2.2.2.2.2.2.2.2.2.2.2.2 BA.out) g3' (own_unlike (own_below HAA.out.2.2.2.2.2.2.2.2.2.2.2.2.2 BA.out) Z2.out (by decide))) (i := 1) (u := .slice vA vn1 vc) (Bx.grown (HAA.out.2.2.2.2.2.2.2.1.below BA.out) g3' (own_not_bx Z2.out (HAA.out.2.2.2.2.2.2.2.1.below BA.out) (by decide))) (by decide)); have hc := MM.out.1.1; have hf := MM.out.1.2; clear oo3 B3 g3')
          have HM := Lib.hid MM.out.2
          clear MM hc hf c5 c_g8 HAA Z2 BA
          go_roundg (NO - (j + 1))
          case measure => omega
          case rel =>
            obtain ⟨k1, k2, k3, k4, k5, k6, k7, _⟩ := HM.out
            refine ⟨j + 1, by omega, rfl, by go_num, Lib.hid ⟨_, k5, ?_, k6, KK.out, k2, k4, k7⟩⟩
            rw [List.take_add_one, List.getElem?_map, HB0.out]; exact k1
    · obtain rfl : j = NO := by omega
      obtain ⟨ov2, oT, oO, oS, oK, g3, g5, B⟩ := hh.out
      obtain ⟨oA2, on2, oc2, rfl⟩ : ∃ A n c, ov2 = .slice A n c := by obtain ⟨vs, z1, z2, _⟩ := oO; obtain ⟨A, c, e⟩ := own_form' z2; exact ⟨A, _, c, e⟩
      rw [List.take_of_length_le (by rw [List.length_map, HNO.out]; exact Nat.le_refl _)] at oO
      have HM := Lib.hid (And.intro (OwnM.mk (m := ⟨T, O.map (obOf l T O), S⟩) oT oO oS) (And.intro oK (And.intro g3 (And.intro g5 B))))
      clear hh oT oO oS oK g3 g5 B
      go_wp2
      go_loopg [13] 16 (fun g i wr => ∃ j2 : Nat, j2 ≤ 16 ∧ g = 16 - j2 ∧ i = .int .i64 j2 ∧ Hid (OwnM wr w.heap.size 68 (.slice tA tn tc) (.slice oA2 on2 oc2) (.slice (some ⟨gS, 0, none⟩) 16 sc) ⟨T, O.map (obOf l T O), mapT (slOf O) S j2⟩ ∧ OwnK wr w.heap.size (.slice oA on oc) O ∧ Bx wr w.heap.size 79 #[.slice none 0 0, .slice none 0 0, .slice none 0 0] ∧ Bx wr p5 79 #[.slice tA tn tc, .slice oA2 on2 oc2, .slice (some ⟨gS, 0, none⟩) 16 sc] ∧ Below w.heap.size w wr))
      case atStart => exact ⟨0, by omega, by omega, rfl, Lib.hid (by rw [mapT_zero]; exact HM.out)⟩
      case round =>
        clear HM
        obtain ⟨j2, hj2, rfl, rfl, hh⟩ := hrel
        obtain ⟨om, oK, g3, g5, B⟩ := hh.out
        have c_g5 := g5.cell
        have hgS := om.s.lt gS rfl
        by_cases hlt2 : j2 < 16
        · obtain ⟨s, hs⟩ : ∃ s, S[j2]? = some s := ⟨_, List.getElem?_eq_getElem (by rw [HS16.out]; exact hlt2)⟩
          have hs2 := mapT_get (f := slOf O) hs
          have hso := seen_slot HRT.out (s := s) (by rw [← HS.out]; exact List.mem_of_getElem? hs)
          obtain ⟨ix, q0, q1, q2⟩ := OwnS.cells om.s hs2
          cases hu : s.used
          · rw [hu] at q1
            have HE := Lib.hid (mapT_same (f := slOf O) hs (slOf_not hu))
            clear hs hs2 hso q0 q2 om g3 oK B
            go_wp2
            go_roundg (16 - (j2 + 1))
            case measure => omega
            case rel =>
              refine ⟨j2 + 1, by omega, rfl, by go_num, ?_⟩
              rw [HE.out]; exact hh
          · rw [hu] at q1
            obtain ⟨a1, a2, a3⟩ := hso.2.2.2 hu
            obtain ⟨x, hx⟩ : ∃ x : UInt64, s.at_ = (x.toNat : Int) := ⟨UInt64.ofNat s.at_.toNat, by
              rw [UInt64.toNat_ofNat_of_lt' (by show s.at_.toNat < 18446744073709551616; omega)]; omega⟩
            rw [hx] at q2 a2 a3
            have hwx : IntKind.u64.wrap (x.toNat : Int) = (x.toNat : Int) := by show (x.toNat : Int) % 18446744073709551616 = _; omega
            obtain ⟨r, hr⟩ : ∃ r, r = idxI O x.toNat := ⟨_, rfl⟩
            have II := Lib.hid (fun w h => IT.out (.slice oA on oc) x r hr w h)
            have HE := Lib.hid (show (mapT (slOf O) S j2).set j2 ⟨s.gen, s.used, r⟩ = mapT (slOf O) S (j2 + 1) by
              rw [← mapT_set hs, slOf_used hu, hu, hx, ← hr])
            have HP := Lib.hid (OwnS.put1 om.s hs2 r)
            have fz := HP.out.2.2.2.2
            have hM3 := OwnM.slots om HP.out.2.1 HP.out.1
            have nx := fun {q : Nat} {tq : TypeId} {cs : Array Value} (hb : Bx wr q tq cs) (hne : gS ≠ q) => hb.grown HP.out.2.1 (.inr (fun e => hne (by injection e)))
            have n3 : gS ≠ w.heap.size := own_ne_bx om.s g3 (by decide)
            have n5 : gS ≠ p5 := own_ne_bx om.s g5 (by decide)
            have r3 := nx g3 n3; have r4 := nx g5 n5
            have hb3 := B.grown HP.out.2.1 B.size (fun k hk => by injection hk with hk; rw [← hk]; exact HP.out.2.2.1)
            have oK3 := World.ownsRow.kept oK HP.out.2.1 (own_unlike oK om.s (by decide))
            have HH := Lib.hid (And.intro hM3 (And.intro oK3 (And.intro r3 (And.intro r4 hb3))))
            have KB := Lib.hid oK.rd
            clear nx r3 r4 hb3 hM3 oK3 hh hr
            go_upto_region 21 with (fail)
            refine wp_region_qtail 14 (by kernel_rfl) (by kernel_rfl) ?_
            simp only [List.take_succ_cons, List.take_zero, List.drop_succ_cons, List.drop_zero]
            iterate 14 (go_big_quiet_step (exact (show Calls Try.prog 108 #[.slice oA on oc, .int .u64 x.toNat] wr.drew (fun e w'' => e = .returned (.int .i64 r) ∧ w'' = wr.drew) from (II.out wr.drew KB.out).mono (fun _ _ hx => ⟨hx.1, hx.2.symm⟩)) _))
            refine wpQuiet_nil ?_
            change wpList _ _ _ _ _ wr.drew
            have q2' : wr.drew.cell? ⟨gS, j2 * 3 + 2, none⟩ = some (.int .i64 x.toNat) := q2
            have fz' : ∀ j, wr.drew.frozen? ⟨gS, j, none⟩ = false := fz
            clear om g3 g5 oK c_g5 B ix q0 q1 q2 fz hs hs2 hso a1 a2 a3
            go_wp2
            clear q2' fz'
            go_roundg (16 - (j2 + 1))
            case measure => omega
            case rel =>
              refine ⟨j2 + 1, by omega, rfl, by go_num, Lib.hid ?_⟩
              rw [← HE.out]
              exact ⟨⟨HH.out.1.t, HH.out.1.o, HH.out.1.s⟩, HH.out.2.1, HH.out.2.2.1, HH.out.2.2.2.1, HH.out.2.2.2.2.drew⟩
        · obtain rfl : j2 = 16 := by omega
          rw [mapT_done (by rw [HS16.out]; exact Nat.le_refl _)] at om
          have HOM := Lib.hid om
          clear hh om oK
          have c_g3 := g3.cell
          have f_g3 := g3.free
          go_wp2
          refine bodyPost_ret (v := .agg #[.slice tA tn tc, .slice oA2 on2 oc2, .slice (some ⟨gS, 0, none⟩) 16 sc]) (by simp [results, Try.results81, go_sem, c_g3, f_g3]) rfl ?_
          refine ⟨_, _, _, rfl, ?_, ?_⟩
          · have := OwnM.set3 HOM.out g3 (a := .slice tA tn tc) (b := .slice oA2 on2 oc2) (c := .slice (some ⟨gS, 0, none⟩) 16 sc)
            rw [show L19.seen l = ⟨T, O.map (obOf l T O), S.map (slOf O)⟩ by unfold L19.seen; rw [HT.out, HO.out, HS.out]]
            exact this
          · exact ((B.setCell (p := ⟨w.heap.size, 0, none⟩) (by simp) _).setCell (p := ⟨w.heap.size, 1, none⟩) (by simp) _).setCell (p := ⟨w.heap.size, 2, none⟩) (by simp) _
end Go.Proofs.Ytbfmdbeeiicabaa
namespace Go.Proofs.Ytbfmdbeeiicabaa
open Go.RowKit L01 L02 L05 L06 L07 L13 L14 L15 L18 L19 L20
theorem All18_own (v : Value) (l : List UInt64) (L : List Sl) (hL : L = slots l) (h0 : openErr l = 0) (w : World) (h : Words w v l) :
    Calls Try.prog 38 #[v] w fun e w' => ∃ x, e = .returned (.tuple #[x, .int .i64 0]) ∧ OwnS w' w.heap.size 127 x L ∧ Below w.heap.size w w' := by
  have B : Below w.heap.size w w := Below.refl _ _
  obtain ⟨V, hV⟩ : ∃ V, V = tab (tabOf l) := ⟨_, rfl⟩
  have HOT := Lib.hid (fun w h => open_any v l V hV 0 h0.symm w h); have H := Lib.hid h; clear h
  have hVs : V.size = 48 := by rw [hV]; exact tabOf_size l
  have hV1 : V.all (·.oneCell') = true := by rw [hV]; exact tab_one _
  have hVL : V = tab L := by rw [hV, tabOf_ok h0, hL]
  have hL16 : L.length = 16 := by rw [hL]; exact slots16 h0
  have HVs := Lib.hid hVs; have HV1 := Lib.hid hV1; have HVL := Lib.hid hVL; have HL16 := Lib.hid hL16
  clear h0 hVs hV1 hVL hL16 hV hL
  go_enter Try.func38, Try.ntmps38
  go_wp2_with fail
  refine (HOT.out _ (H.out.below B)).mono ?_
  rintro e w' ⟨rfl, b⟩
  replace B := B.trans (b.mono B.size); clear b
  go_wp2_with ((with_reducible refine at_store 127 4 9 ?_); refine wpList_storeNew rfl _ _ _ rfl rfl V rfl rfl (by rw [HVs.out]; exact size_table) (by rw [HVs.out]; rfl) HV1.out ?_; intro W q1 b1)
  go_ret2
  exact ⟨_, rfl, q1.ownS B.size HVL.out HL16.out, B.trans (b1.mono B.size)⟩
/-- one more object at the end of a model's objects: all else is kept -/
structure PushO (wr W' w : World) (B0 p : Nat) (v xt ys : Value) (L : List Ob) (o : Ob) : Prop where
  own : OwnO W' B0 v (L ++ [o])
  md : Bx W' p 79 #[xt, v, ys]
  below : Below B0 w W'
  row : ∀ {B e sz n : Nat} {x : Value} {xs : List Value}, wr.ownsRow B e sz x n xs → e ≠ 136 → e ≠ 79 → W'.ownsRow B e sz x n xs
  bx : ∀ {q : Nat} {t : TypeId} {cs : Array Value}, Bx wr q t cs → q ≠ p → 136 ≠ t → Bx W' q t cs
  map : ∀ {k e : TypeId} {z0 : Lit} {g n : Nat} {f : Int → Lit} {K : Int → Bool}, MapN Try.prog k e z0 wr g n f K → MapN Try.prog k e z0 W' g n f K
theorem PushO.t {wr W' w : World} {B0 p : Nat} {v xt ys : Value} {L : List Ob} {o : Ob} (h : PushO wr W' w B0 p v xt ys L o) {B : Nat} {x : Value} {T : List (List UInt8)} (hT : OwnT wr B x T) : OwnT W' B x T := by
  obtain ⟨vs, a1, a2, a4⟩ := hT
  exact ⟨vs, a1, h.row a2 (by decide) (by decide), fun i x l h5 h6 => h.row (a4 i x l h5 h6) (by decide) (by decide)⟩
theorem pushO {w wr W1 W3 : World} {B0 p n : Nat} {ot y v xt ys : Value} {vs : List Value} {L : List Ob} {o : Ob}
    (z1 : vs.length = L.length) (z2 : wr.ownsRow B0 136 2 ot L.length (obC L vs)) (z4 : ∀ (i : Nat) x l, vs[i]? = some x → L[i]? = some l → OwnW wr B0 34 x l.fs)
    (z5 : ∀ (i j : Nat) x y, i ≠ j → vs[i]? = some x → vs[j]? = some y → x.ownBlock = none ∨ x.ownBlock ≠ y.ownBlock)
    (oy : OwnW W1 wr.heap.size 34 y o.fs) (b1 : Below wr.heap.size wr W1) (hown : W3.ownsRow B0 136 2 v n (obC L vs ++ [i64 o.ty, y])) (hgr : (W1.alloc (.cells #[i64 o.ty, y] 136)).grownBy W3 ot.ownBlock)
    (q3 : Bx wr p 79 #[xt, ot, ys]) (B : Below B0 w wr) (hB : B0 ≤ wr.heap.size) (hp : B0 ≤ p) :
    (W3.cell? ⟨p, 1, none⟩ = some ot ∧ W3.frozen? ⟨p, 1, none⟩ = false) ∧ PushO wr (W3.setCell ⟨p, 1, none⟩ v) w B0 p v xt ys L o := by
  have b2 : Below wr.heap.size wr (W1.alloc (.cells #[i64 o.ty, y] 136)) := b1.alloc b1.size _
  have z2' := own_below z2 b2
  have nx := fun {g : Nat} {cs : Array Value} (hq : Bx (W1.alloc (.cells #[i64 o.ty, y] 136)) g 79 cs) => Bx.grown hq hgr (own_not_bx z2' hq (by decide))
  have r3 := nx (q3.below b2)
  have oO : OwnO W3 B0 v (L ++ [o]) := OwnO.snoc z1 z2' hown (fun i x l h5 h6 => OwnW.below (z4 i x l h5 h6) b2) z5 (OwnW.below (own_mono oy hB) ((Below.refl _ W1).alloc (Nat.le_refl _) _))
    (fun i x hx => own_ne (z4 i x _ hx (List.getElem?_eq_getElem (by have := (List.getElem?_eq_some_iff.1 hx).1; omega))) oy (Nat.le_refl _)) hgr
  have B3 : Below B0 w W3 := (B.trans (b2.mono hB)).grown hgr (Nat.le_trans hB b2.size) (fun k hk => (z2'.lt k hk).1)
  refine ⟨⟨r3.cell 1, r3.free 1⟩, oO.set r3 (by decide) (by decide), ?_, B3.setCell (p := ⟨p, 1, none⟩) hp _, ?_, ?_, ?_⟩
  · have := r3.set (i := 1) v
    simpa using this
  · intro B e sz n x xs h h1 h2
    exact own_set (World.ownsRow.kept (own_below h b2) hgr (own_unlike (own_below h b2) z2' h1)) r3 h2
  · intro q t cs h h1 h2
    exact ((h.below b2).grown hgr (own_not_bx z2' (h.below b2) h2)).far (p := ⟨p, 1, none⟩) h1 _
  · intro k e z0 g n f K h
    have h2 := h.below b2
    obtain ⟨es, ck, hm⟩ := h2.mapL.block
    have h3 := h2.kept hgr (fun e => by
      rcases own_ne_map z2' hm with h | h
      · rw [h] at e; cases e
      · exact h e.symm)
    obtain ⟨es', ck', hm'⟩ := h3.mapL.block
    exact h3.kept (grown_set _ ⟨p, 1, none⟩ _) (fun e => r3.ne_map hm' (by injection e))
theorem OwnM.slotsE {w W : World} {B E g n c : Nat} {tv ov : Value} {m : Mo} {S : List Sl} (h : OwnM w B E tv ov (.slice (some ⟨g, 0, none⟩) n c) m) (hg : w.grownBy W (some g)) (hS : OwnS W B E (.slice (some ⟨g, 0, none⟩) n c) S) (h1 : 44 ≠ E) (h2 : 5 ≠ E) (h3 : 136 ≠ E) (h4 : 34 ≠ E) :
    OwnM W B E tv ov (.slice (some ⟨g, 0, none⟩) n c) ⟨m.types, m.objs, S⟩ := by
  refine ⟨OwnT.kept h.t h.s hg h1 h2, ?_, hS⟩
  obtain ⟨vs, a1, a2, a4, a5⟩ := h.o
  exact ⟨vs, a1, World.ownsRow.kept a2 hg (own_unlike a2 h.s h3), fun i x l h5 h6 => World.ownsRow.kept (a4 i x l h5 h6) hg (own_unlike (a4 i x l h5 h6) h.s h4), a5⟩
theorem OwnM.set3E {w : World} {B E p : Nat} {tv ov sv a b c : Value} {m : Mo} {cs : Array Value} (h : OwnM w B E tv ov sv m) (hg : Bx w p 79 cs) (hE : E ≠ 79) :
    OwnM (((w.setCell ⟨p, 0, none⟩ a).setCell ⟨p, 1, none⟩ b).setCell ⟨p, 2, none⟩ c) B E tv ov sv m := by
  have st : ∀ {w : World} {cs : Array Value} {i : Nat} {u : Value}, OwnM w B E tv ov sv m → Bx w p 79 cs → OwnM (w.setCell ⟨p, i, none⟩ u) B E tv ov sv m := fun h hg => ⟨h.t.set hg (by decide) (by decide), h.o.set hg (by decide) (by decide), own_set h.s hg hE⟩
  exact st (st (st h hg) (hg.set a)) ((hg.set a).set b)
/-- the number of the object at an address, or 0 -/
def numI (O : List Hb) (a : Int) : Int := match idx O a with | some i => (i : Int) | none => 0
theorem numI_idxI {O : List Hb} {a : Int} (h : IsObj O a) : numI O a = idxI O a := by
  obtain ⟨i, b, h1, _⟩ := idx_of h
  unfold numI idxI; rw [h1]
theorem numI_rng {O : List Hb} {a : Int} (h : O.length ≤ 960) : 0 ≤ numI O a ∧ numI O a ≤ 960 := by
  unfold numI
  cases h2 : idx O a with
  | none => exact ⟨Int.le_refl _, by decide⟩
  | some i =>
    obtain ⟨b, h3, _⟩ := idx_some h2
    have := (List.getElem?_eq_some_iff.1 h3).1
    show 0 ≤ (i : Int) ∧ (i : Int) ≤ 960
    exact ⟨by omega, by omega⟩
theorem numI_snoc {O : List Hb} {b : Hb} {a : Int} (hb : ¬ IsObj O b.at_) : numI (O ++ [b]) a = if a = b.at_ then (O.length : Int) else numI O a := by
  unfold numI
  rw [idx_app]
  by_cases h : a = b.at_
  · subst h
    rw [if_pos rfl, idx_none.2 hb, idx, if_pos rfl]
    show ((0 + O.length : Nat) : Int) = _
    omega
  · rw [if_neg h]
    cases idx O a with
    | some i => rfl
    | none => rw [idx, if_neg (fun e => h e.symm), idx]; rfl
theorem objs_new {l : List UInt64} (h : allErr l = 0) {j : Nat} {b : Hb} (hb : (allL l)[j]? = some b) : ¬ IsObj (objs ((allL l).take j)) b.at_ := by
  rintro ⟨c, hc, e⟩
  obtain ⟨hc1, _⟩ := objs_mem.1 hc
  obtain ⟨i, hi⟩ := List.getElem?_of_mem hc1
  have hi1 := (List.getElem?_eq_some_iff.1 hi).1
  rw [List.length_take] at hi1
  rw [List.getElem?_take_of_lt (by omega)] at hi
  have hp := List.pairwise_iff_getElem.1 (chain_apart (chain_iff.1 (parsed_ok.1 (allErr_ok h).2).1)).2
  obtain ⟨i1, i2⟩ := List.getElem?_eq_some_iff.1 hi
  obtain ⟨j1, j2⟩ := List.getElem?_eq_some_iff.1 hb
  have := hp i j i1 j1 (by omega)
  rw [i2, j2] at this
  obtain ⟨x, _, _, hs, h4, _⟩ := all_mem h (List.mem_of_getElem? hi)
  have hz := szN_ge hs
  have : c.size = szN l x := by rw [h4]; exact stand_size hs
  omega
theorem inKinds {l : List UInt64} (rt : Rt l) {b : Hb} (hb : b ∈ O19 l) : ∃ (a q : Nat) (t : List UInt8), b.at_ = a ∧ b.ty = q ∧ (T19 l)[q]? = some t ∧ kindsB (T19 l) b = t ∧ 128 ≤ a ∧ a ≤ 2048 ∧ a + 2 + t.length ≤ l.length ∧ t.length ≤ 8 := by
  have hty : Typed (T19 l) b := rt.good 8 (by omega) (by omega) b hb
  obtain ⟨a, q, t, ha, hq, hTq, hkB, _, hle, _⟩ := in_kinds (in19_of rt.al hb) hty
  have hkE : kErr t = 0 := (T19_ok rt.ty).2 t (List.mem_of_getElem? hTq)
  obtain ⟨a', h1, h2, h3, h4, _⟩ := objs_at rt.al hb
  have := rt.sz.2.1
  exact ⟨a, q, t, ha, hq, hTq, hkB, by omega, by omega, hle, (kErr_ok hkE).1⟩
end Go.Proofs.Ytbfmdbeeiicabaa
namespace Go.Proofs.Ytbfmdbeeiicabaa.L19
open L02 L05 L06 L07 L13 L14 L15 L18
end Go.Proofs.Ytbfmdbeeiicabaa.L19
namespace Go.Proofs.Ytbfmdbeeiicabaa
open Go.RowKit L01 L02 L05 L14 L15
/-- a word of a slice of the call's own -/
theorem OwnW.at_ {w : World} {base : Nat} {v : Value} {l : List UInt64} (h : OwnW w base 34 v l) {k : Nat} (hk : k < l.length) :
    ∃ ad, (∀ W, (Instr.indexAt 22 v (.int .i64 (k : Int))).run Try.prog W = .ok (.pointer (some ad)) W) ∧ w.cell? ad = some (.int .u64 (l.getD k 0).toNat) ∧ w.frozen? ad = false ∧ base ≤ ad.block ∧ v.ownBlock = some ad.block ∧ ∀ x : UInt64, OwnW (w.setCell ad (.int .u64 x.toNat)) base 34 v (l.set k x) := by
  obtain ⟨g, cap, cur, rfl, hB, hg, hnc, hcm, hcs, htake⟩ := own_form h (by omega)
  have hrd := Rd.of_own h
  have hix := fun W => Rd.ixN hrd Try.underlying22 one_u64 hk W
  have hcell := Rd.cell hrd (j := k) (u := .int .u64 (l.getD k 0).toNat) (by rw [List.getElem?_map, List.getElem?_eq_getElem hk, List.getD_eq_getElem?_getD, List.getElem?_eq_getElem hk]; rfl)
  have e1 : cellAt (.slice (some ⟨g, 0, none⟩) l.length cap) (k * 1) = ⟨g, k, none⟩ := by simp [cellAt]
  have e2 : cellAt (.slice (some ⟨g, 0, none⟩) l.length cap) k = ⟨g, k, none⟩ := by simp [cellAt]
  rw [e2] at hcell
  exact ⟨⟨g, k, none⟩, fun W => by rw [← e1]; exact hix W, hcell, World.ownsRow.frozenAt h k, hB, rfl, fun x => OwnW.set (World.ownsRow.stored h k _).1⟩
end Go.Proofs.Ytbfmdbeeiicabaa
namespace Go.Proofs.Ytbfmdbeeiicabaa
open Go.RowKit L01 L02 L05 L06 L07 L13 L14 L15 L18 L19 L20
theorem plain_i64 {a : Int} (h : i64Ok a) : plainElem (H := Unit) Try.prog 3 (.int .i64 a) = some (.lit (.int .i64 a), []) := plainElem_int Try.underlying3 (lit_wf h)
theorem zero_int (W : World) : (zeroValue 3).run Try.prog W = .ok (.int .i64 0) W := by kernel_rfl
theorem MapN.congr {P : Program} {k e : TypeId} {z0 : Lit} {W : World} {g n n' : Nat} {f f' : Int → Lit} {K K' : Int → Bool} (h : MapN P k e z0 W g n f K) (hn : n = n') (hf : ∀ a, f a = f' a) (hK : ∀ a, K a = K' a) : MapN P k e z0 W g n' f' K' := by
  have e1 : f = f' := funext hf
  have e2 : K = K' := funext hK
  rw [← hn, ← e1, ← e2]; exact h
theorem mix_get {α : Type} {A R : List α} {p : Nat} {x y : α} (hA : A[p]? = some x) (hR : R[p]? = some y) : (A.take p ++ R.drop p)[p]? = some y := by
  have h1 := (List.getElem?_eq_some_iff.1 hA).1
  rw [List.getElem?_append_right (by rw [List.length_take]; omega), List.length_take, Nat.min_eq_left (by omega), Nat.sub_self, List.getElem?_drop, Nat.add_zero, hR]
theorem mix_set {α : Type} {A R : List α} {p : Nat} {x y : α} (hA : A[p]? = some x) (hR : R[p]? = some y) : (A.take p ++ R.drop p).set p x = A.take (p + 1) ++ R.drop (p + 1) := by
  have h1 := (List.getElem?_eq_some_iff.1 hA).1
  have h2 := (List.getElem?_eq_some_iff.1 hR).1
  rw [List.set_append_right _ _ (by rw [List.length_take]; omega), List.length_take, Nat.min_eq_left (by omega), Nat.sub_self, List.drop_eq_getElem_cons h2, List.set_cons_zero, List.take_add_one, hA]
  simp
theorem mix_same {α : Type} {A R : List α} {p : Nat} {x : α} (hA : A[p]? = some x) (hR : R[p]? = some x) : A.take (p + 1) ++ R.drop (p + 1) = A.take p ++ R.drop p := by
  have h2 := (List.getElem?_eq_some_iff.1 hR)
  rw [List.take_add_one, hA, show R.drop p = x :: R.drop (p + 1) by rw [List.drop_eq_getElem_cons h2.1, h2.2]]
  simp
set_option maxRecDepth 100000 in
set_option maxHeartbeats 16000000 in
theorem OfM_any (v : Value) (l : List UInt64) (m : Mo) (r : Int) (hm : m = ofM l) (hr : r = chk19 l) (w : World) (h : Words w v l) :
    Calls Try.prog 42 #[v] w fun e w' => ∃ t' o' s', e = .returned (.tuple #[.agg #[t', o', s'], .int .i64 r]) ∧ OwnM w' w.heap.size 127 t' o' s' m ∧ Below w.heap.size w w' := by
  have B : Below w.heap.size w w := Below.refl _ _
  have H := Lib.hid h
  have CK := Lib.hid (fun w h => Check19_any v l r hr w h)
  by_cases h0 : r = 0
  case neg =>
    have hm0 : m = .nil := by rw [hm, ofM, if_neg (by rw [← hr]; exact h0)]
    subst hm0
    have n1 : (r != 0) = true := by rw [bne_iff_ne]; exact h0
    clear hm hr h h0
    go_enter Try.func42, Try.ntmps42
    go_upto_region 1 with (fail)
    refine wp_gen (fun Wv => Bx Wv (w.heap.size) (79) (#[.slice none 0 0, .slice none 0 0, .slice none 0 0]) ∧ Below w.heap.size w Wv) ⟨((Bx.at_ (by simp))), ((Below.refl _ w).alloc (by simp <;> omega) _)⟩ ?_
    rintro wa1 ⟨g1, b⟩
    replace B := B.trans (b.mono B.size); clear b
    have c_g1 := g1.cell; have f_g1 := g1.free; have a_g1 := fun o => (g1.alloc o).cell; have d_g1 := fun o o2 => ((g1.alloc o).alloc o2).cell; have e_g1 := fun o => (g1.alloc o).free
    go_wp2_with fail
    refine (CK.out _ (H.out.below B)).mono ?_
    rintro e wa2 ⟨rfl, b⟩
    try clear c_g1 f_g1 a_g1 d_g1 e_g1
    replace g1 := g1.below b; have c_g1 := g1.cell; have f_g1 := g1.free; have a_g1 := fun o => (g1.alloc o).cell; have d_g1 := fun o o2 => ((g1.alloc o).alloc o2).cell; have e_g1 := fun o => (g1.alloc o).free; replace B := B.trans (b.mono B.size); clear b
    go_wp2
    refine bodyPost_ret (v := .tuple #[.agg #[.slice none 0 0, .slice none 0 0, .slice none 0 0], .int .i64 r]) (by simp [results, Try.results42, go_sem, c_g1, f_g1]) rfl ?_
    refine ⟨_, _, _, rfl, ⟨OwnT.nil _ _, OwnO.nil _ _, OwnS.nil _ _ _⟩, ?_⟩
    exact ((B.setCell (p := ⟨w.heap.size, 0, none⟩) (by simp) _).setCell (p := ⟨w.heap.size, 1, none⟩) (by simp) _).setCell (p := ⟨w.heap.size, 2, none⟩) (by simp) _
  case pos =>
    subst h0
    have rt : Rt l := Rt.of hr.symm
    obtain ⟨T, hT⟩ : ∃ T, T = T19 l := ⟨_, rfl⟩
    obtain ⟨S, hS⟩ : ∃ S, S = slots l := ⟨_, rfl⟩
    obtain ⟨L, hL⟩ : ∃ L, L = allL l := ⟨_, rfl⟩
    obtain ⟨O, hO⟩ : ∃ O, O = O19 l := ⟨_, rfl⟩
    have hOL : O = objs L := by rw [hO, hL]; rfl
    obtain ⟨sw, hsw⟩ : ∃ x, x = sW l := ⟨_, rfl⟩
    obtain ⟨st, hst⟩ : ∃ x, x = sT l := ⟨_, rfl⟩
    obtain ⟨i0, hi0⟩ : ∃ x, x = is0 l := ⟨_, rfl⟩
    obtain ⟨i1, hi1⟩ : ∃ x, x = is1 l := ⟨_, rfl⟩
    have T3 := Lib.hid (fun w h => TRead_any v l sw st i0 i1 0 hsw hst hi0 hi1 rt.tw.symm w h)
    have KT := Lib.hid (fun w h => KTable_any v l st T 0 (by rw [hT, hst]; rfl) (by rw [hst]; exact rt.ty.symm) w h)
    have AT := Lib.hid (fun w h => All18_own v l S hS rt.sl w h)
    have WT := Lib.hid (fun w h => AllW_any v l L 0 hL rt.al.symm w h)
    have hm2 : m = ⟨T, O.map (obOf l T O), S.map (slOf O)⟩ := by rw [hm, ofM, if_pos hr.symm]; unfold L19.seen; rw [hT, hO, hS]
    subst hm2
    have hO9 : O.length ≤ 960 := by rw [hO]; exact objs_len rt.al
    have hL9 : L.length ≤ 960 := by rw [hL]; exact all_len rt.al
    have hS16 : S.length = 16 := by rw [hS]; exact slots_len' rt.sl
    obtain ⟨N, hN⟩ : ∃ N, N = L.length := ⟨_, rfl⟩
    have hN9 : N ≤ 960 := by omega
    have hab : ∀ b ∈ L, 0 ≤ b.at_ ∧ b.at_ ≤ 1000000 := fun b hb => by
      rw [hL] at hb
      obtain ⟨x, h1, h2, _, h4, _⟩ := all_mem rt.al hb
      have := rt.sz.2.1
      have : b.at_ = x := by rw [h4]; rfl
      omega
    have HRT := Lib.hid rt; have HT := Lib.hid hT; have HS := Lib.hid hS; have HO := Lib.hid hO; have HOL := Lib.hid hOL; have HN := Lib.hid hN; have HO9 := Lib.hid hO9; have HS16 := Lib.hid hS16; have HL := Lib.hid hL; have HAB := Lib.hid hab
    have hmm := @run_makeMap Try.prog
    clear h rt hT hS hL hO hOL hO9 hL9 hS16 hN hm hr hsw hst hi0 hi1 hab
    go_enter Try.func42, Try.ntmps42
    go_upto_region 1 with (fail)
    refine wp_gen (fun Wv => Bx Wv (w.heap.size) (79) (#[.slice none 0 0, .slice none 0 0, .slice none 0 0]) ∧ Below w.heap.size w Wv) ⟨((Bx.at_ (by simp))), ((Below.refl _ w).alloc (by simp <;> omega) _)⟩ ?_
    rintro wa1 ⟨g1, b⟩
    replace B := B.trans (b.mono B.size); clear b
    have c_g1 := g1.cell; have f_g1 := g1.free; have a_g1 := fun o => (g1.alloc o).cell; have d_g1 := fun o o2 => ((g1.alloc o).alloc o2).cell; have e_g1 := fun o => (g1.alloc o).free
    have hz1 := B.size; have hp1 := g1.lt
    go_wp2_with fail
    refine (CK.out _ (H.out.below B)).mono ?_
    rintro e wa2 ⟨rfl, b⟩
    try clear c_g1 f_g1 a_g1 d_g1 e_g1
    replace g1 := g1.below b; have c_g1 := g1.cell; have f_g1 := g1.free; have a_g1 := fun o => (g1.alloc o).cell; have d_g1 := fun o o2 => ((g1.alloc o).alloc o2).cell; have e_g1 := fun o => (g1.alloc o).free; replace B := B.trans (b.mono B.size); clear b
    go_wp2_with fail
    refine (T3.out _ (H.out.below B)).mono ?_
    rintro e wa3 ⟨rfl, b⟩
    try clear c_g1 f_g1 a_g1 d_g1 e_g1
    replace g1 := g1.below b; have c_g1 := g1.cell; have f_g1 := g1.free; have a_g1 := fun o => (g1.alloc o).cell; have d_g1 := fun o o2 => ((g1.alloc o).alloc o2).cell; have e_g1 := fun o => (g1.alloc o).free; replace B := B.trans (b.mono B.size); clear b
    have hz3 := B.size
    go_upto_region 5 with (fail)
    refine wp_gen (fun Wv => Bx Wv (wa3.heap.size) (60) (#[.int .i64 sw, .int .i64 st]) ∧ Below wa3.heap.size wa3 Wv) ⟨(((Bx.at_ (by simp)).alloc _)), (((Below.refl _ wa3).alloc (by simp <;> omega) _).alloc (by simp <;> omega) _)⟩ ?_
    rintro wa4 ⟨g2, b⟩
    try clear c_g1 f_g1 a_g1 d_g1 e_g1
    replace g1 := g1.below b; have c_g1 := g1.cell; have f_g1 := g1.free; have a_g1 := fun o => (g1.alloc o).cell; have d_g1 := fun o o2 => ((g1.alloc o).alloc o2).cell; have e_g1 := fun o => (g1.alloc o).free; replace B := B.trans (b.mono B.size); clear b
    have c_g2 := g2.cell; have f_g2 := g2.free; have a_g2 := fun o => (g2.alloc o).cell; have d_g2 := fun o o2 => ((g2.alloc o).alloc o2).cell; have e_g2 := fun o => (g2.alloc o).free
    have hz4 := B.size
    go_wp2_with fail
    refine (KT.out _ (H.out.below B)).mono ?_
    rintro e wa5 ⟨xt, rfl, ot, b⟩
    try clear c_g1 f_g1 a_g1 d_g1 e_g1
    replace g1 := g1.below b; have c_g1 := g1.cell; have f_g1 := g1.free; have a_g1 := fun o => (g1.alloc o).cell; have d_g1 := fun o o2 => ((g1.alloc o).alloc o2).cell; have e_g1 := fun o => (g1.alloc o).free; try clear c_g2 f_g2 a_g2 d_g2 e_g2
    replace g2 := g2.below b; have c_g2 := g2.cell; have f_g2 := g2.free; have a_g2 := fun o => (g2.alloc o).cell; have d_g2 := fun o o2 => ((g2.alloc o).alloc o2).cell; have e_g2 := fun o => (g2.alloc o).free; replace B := B.trans (b.mono B.size); clear b
    have hz5 := B.size
    obtain ⟨tA, tn, tc, rfl⟩ := form_T ot
    clear c_g2 f_g2 a_g2 d_g2 e_g2
    clear g2
    go_wp2_with fail
    refine (AT.out _ (H.out.below B)).mono ?_
    rintro e wa6 ⟨xs, rfl, os, b⟩
    try clear c_g1 f_g1 a_g1 d_g1 e_g1
    replace g1 := g1.below b; have c_g1 := g1.cell; have f_g1 := g1.free; have a_g1 := fun o => (g1.alloc o).cell; have d_g1 := fun o o2 => ((g1.alloc o).alloc o2).cell; have e_g1 := fun o => (g1.alloc o).free; replace ot := ot.below b; replace B := B.trans (b.mono B.size); clear b
    have hz6 := B.size
    obtain ⟨gS, sc, rfl⟩ : ∃ g c, xs = .slice (some ⟨g, 0, none⟩) 16 c := by obtain ⟨g, n, c, e, e2⟩ := os.form (by rw [HS16.out]; omega); rw [e2, HS16.out] at e; exact ⟨g, c, e⟩
    go_wp2_with fail
    refine (WT.out _ (H.out.below B)).mono ?_
    rintro e wa7 ⟨xl, rfl, ol, b⟩
    try clear c_g1 f_g1 a_g1 d_g1 e_g1
    replace g1 := g1.below b; have c_g1 := g1.cell; have f_g1 := g1.free; have a_g1 := fun o => (g1.alloc o).cell; have d_g1 := fun o o2 => ((g1.alloc o).alloc o2).cell; have e_g1 := fun o => (g1.alloc o).free; replace ot := ot.below b; replace os := os.below b; replace B := B.trans (b.mono B.size); clear b
    have hz7 := B.size
    obtain ⟨lA, ln, lc, rfl⟩ : ∃ A n c, xl = .slice A n c := row_form ol
    go_upto_region 10 with (fail)
    have hp7 := g1.lt
    have hp5 : w.heap.size + 1 ≤ wa7.heap.size := hp7
    have HPK := Lib.hid (show OwnT wa7 w.heap.size (.slice tA tn tc) T ∧ OwnS wa7 w.heap.size 127 (.slice (some ⟨gS, 0, none⟩) 16 sc) S ∧ OwnK wa7 w.heap.size (.slice lA ln lc) L ∧ Bx wa7 w.heap.size 79 #[.slice none 0 0, .slice none 0 0, .slice none 0 0] ∧ Below w.heap.size w wa7 from ⟨ot.mono (by omega), own_mono os (by omega), ol.mono (by omega), g1, B⟩)
    clear ot os ol g1 B hz1 hp1 hz3 hz4 hz5 hz6 hz7 hp7 c_g1 f_g1 a_g1 d_g1 e_g1
    refine wp_gen (fun V => OwnT V w.heap.size (.slice tA tn tc) T ∧ OwnS V w.heap.size 127 (.slice (some ⟨gS, 0, none⟩) 16 sc) S ∧ OwnK V w.heap.size (.slice lA ln lc) L ∧ Bx V w.heap.size 79 #[.slice none 0 0, .slice none 0 0, .slice none 0 0] ∧ Bx V wa7.heap.size 79 #[.slice tA tn tc, .slice none 0 0, .slice (some ⟨gS, 0, none⟩) 16 sc] ∧
      MapN Try.prog 3 3 (.int .i64 0) V (wa7.heap.size + 1) (objs (L.take 0)).length (fun a => .int .i64 (numI (objs (L.take 0)) a)) (fun a => decide (IsObj (objs (L.take 0)) a)) ∧ Below w.heap.size w V) ?_ ?_
    · obtain ⟨k1, k2, k3, k4, k5⟩ := HPK.out
      have bb : Below wa7.heap.size wa7 ((wa7.alloc (.cells #[.slice tA tn tc, .slice none 0 0, .slice (some ⟨gS, 0, none⟩) 16 sc] 79)).alloc (.map #[] 0)) := ((Below.refl _ wa7).alloc (Nat.le_refl _) _).alloc (by simp) _
      refine ⟨k1.below bb, k2.below bb, k3.below bb, k4.below bb, (Bx.new wa7 _ _).alloc _, ?_, k5.trans (bb.mono k5.size)⟩
      have := MapN.made (P := Try.prog) (k := 3) (e := 3) (z0 := .int .i64 0) (wa7.alloc (.cells #[.slice tA tn tc, .slice none 0 0, .slice (some ⟨gS, 0, none⟩) 16 sc] 79))
      rw [show (wa7.alloc (.cells #[.slice tA tn tc, .slice none 0 0, .slice (some ⟨gS, 0, none⟩) 16 sc] 79)).heap.size = wa7.heap.size + 1 by simp] at this
      refine this.congr rfl (fun a => rfl) (fun a => ?_)
      symm
      rw [decide_eq_false_iff_not]
      rintro ⟨b, hb, _⟩
      simp [objs] at hb
    clear HPK hmm
    generalize wa7.heap.size = p5 at *
    generalize hpm : p5 + 1 = pm
    intro V0 hV0
    have HV := Lib.hid hV0
    clear hV0
    have lx := HV.out.2.2.1.rd.len
    rw [← HN.out] at lx
    go_wp2
    clear lx
    go_loopg [60] N (fun g i wr => ∃ j : Nat, j ≤ N ∧ g = N - j ∧ i = .int .i64 j ∧ Hid (OwnT wr w.heap.size (.slice tA tn tc) T ∧ OwnS wr w.heap.size 127 (.slice (some ⟨gS, 0, none⟩) 16 sc) S ∧ OwnK wr w.heap.size (.slice lA ln lc) L ∧ Bx wr w.heap.size 79 #[.slice none 0 0, .slice none 0 0, .slice none 0 0] ∧ Bx wr p5 79 #[.slice tA tn tc, .slice none 0 0, .slice (some ⟨gS, 0, none⟩) 16 sc] ∧
      MapN Try.prog 3 3 (.int .i64 0) wr pm (objs (L.take j)).length (fun a => .int .i64 (numI (objs (L.take j)) a)) (fun a => decide (IsObj (objs (L.take j)) a)) ∧ Below w.heap.size w wr))
    case atStart => exact ⟨0, by omega, by omega, rfl, HV⟩
    case round =>
      clear HV
      obtain ⟨j, hj, rfl, rfl, hh⟩ := hrel
      by_cases hlt : j < N
      · obtain ⟨oT, oS, oK, g1, g5, mp, B⟩ := hh.out
        obtain ⟨bb, oo, b, ia, m0, m1, m2, m3, m4, m5, hb, _⟩ := oK.rd.at_ (k := j) (by rw [← HN.out]; exact hlt)
        have htk : L.take (j + 1) = L.take j ++ [b] := by rw [List.take_add_one, hb.out]; rfl
        have hB0 := B.size
        by_cases hk : b.kind = 1
        · have k1 : (b.kind == 1) = true := by rw [beq_iff_eq]; exact hk
          have hob : objs (L.take (j + 1)) = objs (L.take j) ++ [b] := by rw [htk, objs_snoc, if_pos hk]
          have hnew : ¬ IsObj (objs (L.take j)) b.at_ := by rw [HL.out]; exact objs_new HRT.out.al (by rw [← HL.out]; exact hb.out)
          have hol : (objs (L.take j)).length ≤ j := Nat.le_trans (List.length_filter_le _ _) (by rw [List.length_take]; omega)
          obtain ⟨a1, a2⟩ := HAB.out b (List.mem_of_getElem? hb.out)
          have hia : i64Ok b.at_ := ⟨by omega, by omega⟩
          have hkf : decide (IsObj (objs (L.take j)) b.at_) = false := decide_eq_false hnew
          obtain ⟨Q, hQ⟩ : ∃ Q, Q = objs (L.take j) := ⟨_, rfl⟩
          rw [← hQ] at hol hkf mp hob hnew
          obtain ⟨qn, hqn⟩ : ∃ q, q = Q.length := ⟨_, rfl⟩
          rw [← hqn] at hol mp
          have HOB := Lib.hid hob; have HNEW := Lib.hid hnew; have HQN := Lib.hid hqn
          clear htk hk hob hnew hb hh hQ hqn
          go_upto_region 13 with (fail)
          refine wp_gen (fun Wv => Bx Wv (wr.heap.size) (38) (#[.int .i64 b.at_, .int .i64 b.size, .int .i64 b.kind, .int .i64 b.ty, .bool b.mark, .int .u64 b.next.toNat]) ∧ Below wr.heap.size wr Wv) ⟨((Bx.at_ (by simp))), ((Below.refl _ wr).alloc (by simp <;> omega) _)⟩ ?_
          rintro wa8 ⟨g7, b⟩
          replace oT := oT.below b; replace oS := oS.below b; replace oK := oK.below b; try clear c_g1 f_g1 a_g1 d_g1 e_g1
          replace g1 := g1.below b; have c_g1 := g1.cell; have f_g1 := g1.free; have a_g1 := fun o => (g1.alloc o).cell; have d_g1 := fun o o2 => ((g1.alloc o).alloc o2).cell; have e_g1 := fun o => (g1.alloc o).free; try clear c_g5 f_g5 a_g5 d_g5 e_g5
          replace g5 := g5.below b; have c_g5 := g5.cell; have f_g5 := g5.free; have a_g5 := fun o => (g5.alloc o).cell; have d_g5 := fun o o2 => ((g5.alloc o).alloc o2).cell; have e_g5 := fun o => (g5.alloc o).free; replace mp := mp.below b; replace B := B.trans (b.mono B.size); clear b
          have c_g7 := g7.cell; have f_g7 := g7.free; have a_g7 := fun o => (g7.alloc o).cell; have d_g7 := fun o o2 => ((g7.alloc o).alloc o2).cell; have e_g7 := fun o => (g7.alloc o).free
          have lm := mp.len Try.underlying134
          go_wp2_with (at_mapUpdate; refine wpList_mapPutN rfl rfl Try.underlying3 Try.underlying134 rfl rfl rfl mp (by unfold maxLen; omega) hia hkf (plain_i64 ⟨by omega, by omega⟩) ?_; intro w5 mp5 g5')
          obtain ⟨es, ck, hmb⟩ := mp.mapL.block
          have HZ := Lib.hid (show OwnT w5 w.heap.size (.slice tA tn tc) T ∧ OwnS w5 w.heap.size 127 (.slice (some ⟨gS, 0, none⟩) 16 sc) S ∧ OwnK w5 w.heap.size (.slice lA ln lc) L ∧ Bx w5 w.heap.size 79 #[.slice none 0 0, .slice none 0 0, .slice none 0 0] ∧ Bx w5 p5 79 #[.slice tA tn tc, .slice none 0 0, .slice (some ⟨gS, 0, none⟩) 16 sc] ∧
            MapN Try.prog 3 3 (.int .i64 0) w5 pm (objs (L.take (j + 1))).length (fun a => .int .i64 (numI (objs (L.take (j + 1))) a)) (fun a => decide (IsObj (objs (L.take (j + 1))) a)) ∧ Below w.heap.size w w5 from
            ⟨oT.keptM hmb g5', row_keptM oS hmb g5', row_keptM oK hmb g5', g1.keptM hmb g5', g5.keptM hmb g5', by
              rw [HOB.out]
              refine mp5.congr (by rw [List.length_append, ← HQN.out]; rfl) (fun a => ?_) (fun a => ?_)
              · rw [numI_snoc HNEW.out]
                by_cases e : a = b.at_
                · rw [if_pos e, if_pos e, HQN.out]
                · rw [if_neg e, if_neg e]
              · rw [Bool.eq_iff_iff, Bool.or_eq_true, decide_eq_true_iff, decide_eq_true_iff, decide_eq_true_iff, isObj_snoc], B.grown g5' B.size (fun k hk => by injection hk with hk; omega)⟩)
          clear oT oS oK g1 g5 mp mp5 g5' B lm hmb
          go_roundg (N - (j + 1))
          case measure => omega
          case rel => exact ⟨j + 1, by omega, rfl, by go_num, HZ⟩
        · have k1 : (b.kind == 1) = false := by rw [beq_eq_false_iff_ne]; exact hk
          have hob : objs (L.take (j + 1)) = objs (L.take j) := by rw [htk, objs_snoc, if_neg hk, List.append_nil]
          have HOB := Lib.hid hob
          clear htk hk hob hb hh
          go_upto_region 13 with (fail)
          refine wp_gen (fun Wv => Bx Wv (wr.heap.size) (38) (#[.int .i64 b.at_, .int .i64 b.size, .int .i64 b.kind, .int .i64 b.ty, .bool b.mark, .int .u64 b.next.toNat]) ∧ Below wr.heap.size wr Wv) ⟨((Bx.at_ (by simp))), ((Below.refl _ wr).alloc (by simp <;> omega) _)⟩ ?_
          rintro wa9 ⟨g7, b⟩
          replace oT := oT.below b; replace oS := oS.below b; replace oK := oK.below b; try clear c_g1 f_g1 a_g1 d_g1 e_g1
          replace g1 := g1.below b; have c_g1 := g1.cell; have f_g1 := g1.free; have a_g1 := fun o => (g1.alloc o).cell; have d_g1 := fun o o2 => ((g1.alloc o).alloc o2).cell; have e_g1 := fun o => (g1.alloc o).free; try clear c_g5 f_g5 a_g5 d_g5 e_g5
          replace g5 := g5.below b; have c_g5 := g5.cell; have f_g5 := g5.free; have a_g5 := fun o => (g5.alloc o).cell; have d_g5 := fun o o2 => ((g5.alloc o).alloc o2).cell; have e_g5 := fun o => (g5.alloc o).free; replace mp := mp.below b; replace B := B.trans (b.mono B.size); clear b
          have c_g7 := g7.cell; have f_g7 := g7.free; have a_g7 := fun o => (g7.alloc o).cell; have d_g7 := fun o o2 => ((g7.alloc o).alloc o2).cell; have e_g7 := fun o => (g7.alloc o).free
          have HZ := Lib.hid (And.intro oT (And.intro oS (And.intro oK (And.intro g1 (And.intro g5 (And.intro mp B))))))
          rw [← HOB.out] at HZ
          go_wp2
          go_roundg (N - (j + 1))
          case measure => omega
          case rel => exact ⟨j + 1, by omega, rfl, by go_num, HZ⟩
      · obtain rfl : j = N := by omega
        have htk : L.take j = L := List.take_of_length_le (by rw [← HN.out]; exact Nat.le_refl _)
        rw [htk, ← HOL.out] at hh
        clear htk
        obtain ⟨oT, oS, oK, g1, g5, mp, B⟩ := hh.out
        have HV := Lib.hid (show OwnT wr w.heap.size (.slice tA tn tc) T ∧ OwnO wr w.heap.size (.slice none 0 0) ((objs (L.take 0)).map (obOf l T O)) ∧ OwnS wr w.heap.size 127 (.slice (some ⟨gS, 0, none⟩) 16 sc) S ∧ OwnK wr w.heap.size (.slice lA ln lc) L ∧ Bx wr w.heap.size 79 #[.slice none 0 0, .slice none 0 0, .slice none 0 0] ∧ Bx wr p5 79 #[.slice tA tn tc, (.slice none 0 0), .slice (some ⟨gS, 0, none⟩) 16 sc] ∧ MapN Try.prog 3 3 (.int .i64 0) wr pm O.length (fun a => .int .i64 (numI O a)) (fun a => decide (IsObj O a)) ∧ Below w.heap.size w wr from ⟨oT, OwnO.nil _ _, oS, oK, g1, g5, mp, B⟩)
        have lx := oK.rd.len
        rw [← HN.out] at lx
        clear hh oT oS oK g1 g5 mp B
        go_wp2
        clear lx
        go_loopg [75] j (fun g i wr => ∃ j2 : Nat, j2 ≤ j ∧ g = j - j2 ∧ i = .int .i64 j2 ∧ Hid (∃ ov, OwnT wr w.heap.size (.slice tA tn tc) T ∧ OwnO wr w.heap.size ov ((objs (L.take j2)).map (obOf l T O)) ∧ OwnS wr w.heap.size 127 (.slice (some ⟨gS, 0, none⟩) 16 sc) S ∧ OwnK wr w.heap.size (.slice lA ln lc) L ∧ Bx wr w.heap.size 79 #[.slice none 0 0, .slice none 0 0, .slice none 0 0] ∧ Bx wr p5 79 #[.slice tA tn tc, ov, .slice (some ⟨gS, 0, none⟩) 16 sc] ∧ MapN Try.prog 3 3 (.int .i64 0) wr pm O.length (fun a => .int .i64 (numI O a)) (fun a => decide (IsObj O a)) ∧ Below w.heap.size w wr))
        case atStart => exact ⟨0, by omega, by omega, rfl, Lib.hid ⟨_, HV.out⟩⟩
        case round =>
          clear HV
          obtain ⟨j2, hj2, rfl, rfl, hh⟩ := hrel
          by_cases hlt2 : j2 < j
          · obtain ⟨ov, oT, oO, oS, oK, g1, g5, mp, B⟩ := hh.out
            obtain ⟨wn, hwn⟩ : ∃ W, W = wr := ⟨_, rfl⟩
            subst hwn
            obtain ⟨bb, oo, b, ia, m0, m1, m2, m3, m4, m5, hb, _⟩ := oK.rd.at_ (k := j2) (by rw [← HN.out]; exact hlt2)
            have htk : L.take (j2 + 1) = L.take j2 ++ [b] := by rw [List.take_add_one, hb.out]; rfl
            have hB0 := B.size
            have HG := Lib.hid (And.intro oT (And.intro oO (And.intro oS (And.intro oK (And.intro g1 (And.intro g5 (And.intro mp B)))))))
            by_cases hk : b.kind = 1
            · have k1 : (b.kind == 1) = true := by rw [beq_iff_eq]; exact hk
              have k1' : (b.kind != 1) = false := by rw [bne_eq_false_iff_eq]; exact hk
              have hob : objs (L.take (j2 + 1)) = objs (L.take j2) ++ [b] := by rw [htk, objs_snoc, if_pos hk]
              have hbO : b ∈ O19 l := by rw [← HO.out, HOL.out]; exact objs_mem.2 ⟨List.mem_of_getElem? hb.out, hk⟩
              have hol : (objs (L.take j2)).length ≤ 960 := by have := HO9.out; have h1 : (objs (L.take j2)).length ≤ j2 := Nat.le_trans (List.length_filter_le _ _) (by rw [List.length_take]; omega); omega
              obtain ⟨a, q, t, ha, hq, hTq, hkB, ha1, ha2, hle, hn8⟩ := inKinds HRT.out hbO
              rw [← HT.out] at hTq hkB
              obtain ⟨nf, hnf⟩ : ∃ N, N = t.length := ⟨_, rfl⟩
              rw [← hnf] at hle hn8
              have hqT := (List.getElem?_eq_some_iff.1 hTq).1
              have hrf : RefsB l T O b := by rw [HT.out, HO.out]; exact HRT.out.good 11 (by omega) (by omega) b hbO
              have HOB := Lib.hid hob; have HTQ := Lib.hid hTq; have HKB := Lib.hid hkB; have HNF := Lib.hid hnf; have HQT := Lib.hid hqT; have HLE := Lib.hid hle; have HRF := Lib.hid hrf; have HOL9 := Lib.hid hol
              obtain ⟨bat, bsz, bkd, bty, bmk, bnx⟩ := b
              dsimp only at ha hq m0 m1 m2 m3 m4 m5 k1 k1'
              subst ha; subst hq
              clear hob htk hk hbO hTq hkB hnf hqT hle hrf hol hb hh
              clear oO oS oK g1 g5 mp
              clear oT
              have B1 : Below wn.heap.size wn wn := Below.refl _ _
              go_upto_region 19 with (fail)
              refine wp_gen (fun Wv => Bx Wv (wn.heap.size) (38) (#[.int .i64 a, .int .i64 bsz, .int .i64 bkd, .int .i64 q, .bool bmk, .int .u64 bnx.toNat]) ∧ Below wn.heap.size wn Wv) ⟨((Bx.at_ (by simp))), ((Below.refl _ wn).alloc (by simp <;> omega) _)⟩ ?_
              rintro wa10 ⟨g8, b⟩
              replace B1 := B1.trans (b.mono B1.size); replace B := B.trans (b.mono B.size); clear b
              have c_g8 := g8.cell; have f_g8 := g8.free; have a_g8 := fun o => (g8.alloc o).cell; have d_g8 := fun o o2 => ((g8.alloc o).alloc o2).cell; have e_g8 := fun o => (g8.alloc o).free
              obtain ⟨ad, yt, t2, iy, m3n, ht2, hby⟩ := HG.out.1.rd.at_ HQT.out
              have m3' := cell_later B1 m3n
              obtain rfl : t2 = t := by have := ht2.out; rw [HTQ.out] at this; injection this with e; exact e.symm
              have lx := Rd.len hby.out Try.underlying44
              rw [← HNF.out] at lx
              obtain ⟨dv, hcut, hW⟩ := (H.out.below B).cut (P := Try.prog) Try.underlying22 one_u64 (lo := (a : Int) + 2) (hi := (a : Int) + 2 + (nf : Int)) (by omega) (by omega) (by have := HLE.out; omega)
              obtain ⟨raw, hraw⟩ : ∃ m, m = (l.drop (a + 2)).take nf := ⟨_, rfl⟩
              rw [show ((a : Int) + 2 + (nf : Int)).toNat - ((a : Int) + 2).toNat = nf by omega, show ((a : Int) + 2).toNat = a + 2 by omega, ← hraw] at hW
              have hrl : raw.length = nf := by rw [hraw, List.length_take, List.length_drop]; have := HLE.out; omega
              have HRG := Lib.hid (show ∀ p, p < nf → raw[p]? = some (fw l ⟨(a : Int), bsz, bkd, (q : Int), bmk, bnx⟩ p) from fun p hp => by
                have h1 := HLE.out
                rw [hraw, List.getElem?_take_of_lt hp, List.getElem?_drop]
                unfold fw
                rw [Int.toNat_natCast, List.getD_eq_getElem?_getD, List.getElem?_eq_getElem (by omega)]; rfl)
              have HRL := Lib.hid hrl; have HW := Lib.hid hW
              have w1 : IntKind.i64.wrap ((a : Int) + 2) = (a : Int) + 2 := IntWalk.i64_in _ (by omega)
              have w2 : IntKind.i64.wrap ((a : Int) + 2 + (nf : Int)) = (a : Int) + 2 + (nf : Int) := IntWalk.i64_in _ (by omega)
              have HBY := Lib.hid hby.out
              have hB1 := B1.size
              clear ht2 hby hrl hraw hW m3n f_g8 a_g8 d_g8 e_g8
              go_upto_region 20 with (fail)
              refine wp_region_qtail 15 (by kernel_rfl) (by kernel_rfl) ?_
              simp only [List.take_succ_cons, List.take_zero, List.drop_succ_cons, List.drop_zero]
              iterate 15 (go_big_quiet_step (fail))
              refine wpQuiet_nil ?_
              go_wp2_with fail
              refine (CloneW_any dv raw (by rw [HRL.out]; omega) _ (HW.out.drew)).mono ?_
              rintro e wc ⟨y, rfl, oy, bC⟩
              obtain ⟨yA, yn, yc, rfl⟩ : ∃ A n c, y = .slice A n c := by obtain ⟨A, c, e⟩ := own_form' oy; exact ⟨A, _, c, e⟩
              have m3c := cell_later ((Below.refl _ _).drew.trans bC) m3'
              have g8c := (show Bx (World.drew _) wn.heap.size 38 #[.int .i64 a, .int .i64 bsz, .int .i64 bkd, .int .i64 q, .bool bmk, .int .u64 bnx.toNat] from g8).below bC
              have HC := Lib.hid (show OwnW wc wn.heap.size 34 (.slice yA yn yc) raw ∧ Bx wc wn.heap.size 38 #[.int .i64 a, .int .i64 bsz, .int .i64 bkd, .int .i64 q, .bool bmk, .int .u64 bnx.toNat] ∧ Below wn.heap.size wn wc from ⟨own_mono oy hB1, g8c, B1.drew.trans (bC.mono hB1)⟩)
              have c_8 := g8c.cell
              obtain ⟨A, hA⟩ : ∃ A, A = obFs l T O ⟨(a : Int), bsz, bkd, (q : Int), bmk, bnx⟩ := ⟨_, rfl⟩
              have hAl : A.length = nf := by rw [hA, obFs_len, HKB.out, ← HNF.out]
              have HAG := Lib.hid (show ∀ p, p < nf → A[p]? = some (fldV O (t2.getD p 0) (fw l ⟨(a : Int), bsz, bkd, (q : Int), bmk, bnx⟩ p)) from fun p hp => by
                rw [hA, obFs_get (by rw [HKB.out, ← HNF.out]; exact hp), HKB.out])
              have HAL := Lib.hid hAl; have HA := Lib.hid hA
              clear oy bC m3' g8 c_g8 g8c B B1 hB1 hcut w1 w2 HW hA hAl
              go_wp2
              clear c_8 m3c
              go_loopg [104] nf (fun g i wr => ∃ p : Nat, p ≤ nf ∧ g = nf - p ∧ i = .int .i64 p ∧ Hid (OwnW wr wn.heap.size 34 (.slice yA yn yc) (A.take p ++ raw.drop p) ∧ Bx wr wn.heap.size 38 #[.int .i64 a, .int .i64 bsz, .int .i64 bkd, .int .i64 q, .bool bmk, .int .u64 bnx.toNat] ∧ Below wn.heap.size wn wr))
              case atStart => exact ⟨0, by omega, by omega, rfl, Lib.hid (by simpa using HC.out)⟩
              case round =>
                clear HC
                obtain ⟨p, hp, rfl, rfl, hh3⟩ := hrel
                obtain ⟨oy, g8, b1⟩ := hh3.out
                by_cases hlp : p < nf
                · have hAp := HAG.out p hlp
                  have hRp := HRG.out p hlp
                  obtain ⟨v5, hv5⟩ : ∃ x, x = fw l ⟨(a : Int), bsz, bkd, (q : Int), bmk, bnx⟩ p := ⟨_, rfl⟩
                  rw [← hv5] at hAp hRp
                  obtain ⟨bd, kk, ib, m4, hkk⟩ := (HBY.out.below b1).at_ (P := Try.prog) Try.underlying44 one_u8 (k := p) (by rw [← HNF.out]; exact hlp)
                  have hkk2 : t2.getD p 0 = kk := by rw [List.getD_eq_getElem?_getD, hkk.out]; rfl
                  rw [hkk2] at hAp
                  have hFl : (A.take p ++ raw.drop p).length = nf := by rw [List.length_append, List.length_take, List.length_drop]; have := HAL.out; have := HRL.out; omega
                  obtain ⟨yd, iyy, my, fy, hyb, hyo, hset⟩ := OwnW.at_ oy (k := p) (by rw [hFl]; exact hlp)
                  have hFp : (A.take p ++ raw.drop p).getD p 0 = v5 := by rw [List.getD_eq_getElem?_getD, mix_get hAp hRp]; rfl
                  rw [hFp] at my
                  have HAp := Lib.hid hAp; have HRp := Lib.hid hRp
                  by_cases h3 : kk.toNat = 3
                  · have k3 : ((kk.toNat : Int) == 3) = true := by rw [beq_iff_eq]; omega
                    have hro : v5 = 0 ∨ IsObj O v5.toNat := by
                      have := HRF.out p (by rw [HKB.out, ← HNF.out]; exact hlp) (by rw [HKB.out, hkk2]; exact h3)
                      rw [← hv5] at this; exact this
                    by_cases hv0 : v5 = 0
                    · have e0 : ((v5.toNat : Int) != 0) = false := by rw [hv0]; rfl
                      have HE := Lib.hid (mix_same (A := A) (R := raw) (x := v5) (by
                        rw [hAp, fldV_ref h3, hv0, refV_none]
                        rw [HO.out]; exact no_zero HRT.out.al (objs_low HRT.out.al)) hRp)
                      clear hAp hRp hv5 hkk hkk2 hFl hFp hro hv0 h3 hset oy g8
                      go_wp2
                      go_roundg (nf - (p + 1))
                      case measure => omega
                      case rel =>
                        refine ⟨p + 1, by omega, rfl, by go_num, ?_⟩
                        rw [HE.out]; exact hh3
                    · have e0 : ((v5.toNat : Int) != 0) = true := by rw [bne_iff_ne]; intro e; exact hv0 (UInt64.toNat.inj (by simp; omega))
                      have hob := hro.resolve_left hv0
                      obtain ⟨c, hcm, hce⟩ := hob
                      have hcb := HAB.out c (by rw [HOL.out] at hcm; exact (objs_mem.1 hcm).1)
                      obtain ⟨k, hk⟩ := Int.eq_ofNat_of_zero_le (numI_rng (a := (v5.toNat : Int)) HO9.out).1
                      have hk9 := (numI_rng (a := (v5.toNat : Int)) HO9.out).2
                      have hxe : ((refV O v5).toNat : Int) = (k : Int) + 1 := by rw [refV_idxI HO9.out, ← numI_idxI ⟨c, hcm, hce⟩, hk]
                      have hv5b : (v5.toNat : Int) ≤ 1000000 := by rw [← hce]; exact hcb.2
                      have ml := (HG.out.2.2.2.2.2.2.1.mapL.below b1).lookI Try.underlying3 Try.underlying134 Try.underlying3 (zero_int wr) (a := (v5.toNat : Int)) ⟨by omega, by omega⟩
                      rw [hk] at ml hk9
                      have w1 : IntKind.i64.wrap (v5.toNat : Int) = (v5.toNat : Int) := IntWalk.i64_in _ (by omega)
                      have w2 : IntKind.u64.wrap (k : Int) = (k : Int) := by show (k : Int) % 18446744073709551616 = _; omega
                      have w3 : IntKind.u64.wrap ((k : Int) + 1) = (k : Int) + 1 := by show ((k : Int) + 1) % 18446744073709551616 = _; omega
                      have hst := hset (refV O v5)
                      rw [hxe, ← fldV_ref h3] at hst
                      have hE := mix_set hAp hRp
                      have hne : yd.block ≠ wn.heap.size := by
                        rcases own_not_bx oy g8 (by decide) with h | h
                        · rw [h] at hyo; cases hyo
                        · intro e; rw [hyo, e] at h; exact h rfl
                      have HZ := Lib.hid (show OwnW (wr.setCell yd (.int .u64 ((k : Int) + 1))) wn.heap.size 34 (.slice yA yn yc) (A.take (p + 1) ++ raw.drop (p + 1)) ∧ Bx (wr.setCell yd (.int .u64 ((k : Int) + 1))) wn.heap.size 38 #[.int .i64 a, .int .i64 bsz, .int .i64 bkd, .int .i64 q, .bool bmk, .int .u64 bnx.toNat] ∧ Below wn.heap.size wn (wr.setCell yd (.int .u64 ((k : Int) + 1))) from
                        ⟨by rw [← hE]; exact hst, g8.far hne.symm _, b1.setCell hyb _⟩)
                      clear hAp hRp hv5 hkk hkk2 hFl hFp hro hv0 h3 hset oy g8 hcm hce hcb hk hxe hst hE hne
                      go_wp2
                      go_roundg (nf - (p + 1))
                      case measure => omega
                      case rel => exact ⟨p + 1, by omega, rfl, by go_num, HZ⟩
                  · have k3 : ((kk.toNat : Int) == 3) = false := by rw [beq_eq_false_iff_ne]; omega
                    have HE := Lib.hid (mix_same (A := A) (R := raw) (x := v5) (by rw [hAp, fldV_not h3]) hRp)
                    clear hAp hRp hv5 hkk hkk2 hFl hFp h3 hset oy g8
                    go_wp2
                    go_roundg (nf - (p + 1))
                    case measure => omega
                    case rel =>
                      refine ⟨p + 1, by omega, rfl, by go_num, ?_⟩
                      rw [HE.out]; exact hh3
                · obtain rfl : p = nf := by omega
                  have hfs : A.take p ++ raw.drop p = A := by rw [List.take_of_length_le (by rw [HAL.out]; exact Nat.le_refl _), List.drop_of_length_le (by rw [HRL.out]; exact Nat.le_refl _), List.append_nil]
                  rw [hfs] at oy
                  obtain ⟨oT, oO, oS, oK, g1, g5, mp, B⟩ := HG.out
                  obtain ⟨oA2, on2, oc2, rfl⟩ : ∃ A n c, ov = .slice A n c := by obtain ⟨vs, z1, z2, _⟩ := oO; obtain ⟨A, c, e⟩ := own_form' z2; exact ⟨A, _, c, e⟩
                  obtain ⟨vs, z1, z2, z4, z5⟩ := oO
                  have c5 := (g5.below b1).cell
                  have c_8 := g8.cell
                  have ba := b1.alloc b1.size (.cells #[.int .i64 (q : Int), .slice yA yn yc] 136)
                  have hoy : OwnW wr wn.heap.size 34 (.slice yA yn yc) (obOf l T O ⟨(a : Int), bsz, bkd, (q : Int), bmk, bnx⟩).fs := by rw [HA.out] at oy; exact oy
                  have HAA := Lib.hid (And.intro z1 (And.intro z2 (And.intro z4 (And.intro z5 (And.intro g5 (And.intro B (And.intro hoy (And.intro b1 ba))))))))
                  have hL1 : ((objs (L.take j2)).map (obOf l T O)).length ≤ 960 := by rw [List.length_map]; exact HOL9.out
                  clear z1 z4 z5 oT oS oK g1 g5 mp B oy b1 g8 hoy hh3
                  have Z2 := Lib.hid (own_below z2 ba); have BA := Lib.hid ba
                  clear z2 ba hfs
                  have HL1 := Lib.hid hL1
                  clear hL1
                  go_upto_region 27 with (fail)
                  go_wp2_with (at_builtin; refine wpList_append (by rfl) rfl rfl rfl Try.underlying77 info_obj rfl (by omega) (by exact Z2.out) (by exact lit_obj) (by exact one_obj rfl) (by have := HL1.out; omega) (by have := HL1.out; omega) (by exact HAA.out.2.2.2.2.2.1.trans (BA.out.mono hB0)) (by omega) ?_; intro v1 w3 oo3 B3 g3'; obtain ⟨vA, vn1, vc, rfl⟩ : ∃ A n c, v1 = .slice A n c := by { obtain ⟨A, c, e⟩ := own_form' oo3; exact ⟨A, _, c, e⟩ }; have MM := Lib.hid (pushO (o := obOf l T O ⟨(a : Int), bsz, bkd, (q : Int), bmk, bnx⟩) HAA.out.1 HAA.out.2.1 HAA.out.2.2.1 HAA.out.2.2.2.1 HAA.out.2.2.2.2.2.2.1 HAA.out.2.2.2.2.2.2.2.1 oo3 g3' HAA.out.2.2.2.2.1 HAA.out.2.2.2.2.2.1 hB0 (by omega)); have hc := MM.out.1.1; have hf := MM.out.1.2; clear oo3 B3 g3')
                  have HM := Lib.hid MM.out.2
                  clear MM hc hf c5 c_8 HAA Z2 BA
                  go_roundg (j - (j2 + 1))
                  case measure => omega
                  case rel =>
                    have P := HM.out
                    obtain ⟨oT, oO, oS, oK, g1, g5, mp, B⟩ := HG.out
                    refine ⟨j2 + 1, by omega, rfl, by go_num, Lib.hid ⟨_, P.t oT, ?_, P.row oS (by decide) (by decide), P.row oK (by decide) (by decide), P.bx g1 (by omega) (by decide), P.md, P.map mp, P.below⟩⟩
                    rw [HOB.out, List.map_append]; exact P.own
            · have k1 : (b.kind == 1) = false := by rw [beq_eq_false_iff_ne]; exact hk
              have k1' : (b.kind != 1) = true := by rw [bne_iff_ne]; exact hk
              have hob : objs (L.take (j2 + 1)) = objs (L.take j2) := by rw [htk, objs_snoc, if_neg hk, List.append_nil]
              have HOB := Lib.hid hob
              clear htk hk hob hb hh
              go_upto_region 19 with (fail)
              refine wp_gen (fun Wv => Bx Wv (wn.heap.size) (38) (#[.int .i64 b.at_, .int .i64 b.size, .int .i64 b.kind, .int .i64 b.ty, .bool b.mark, .int .u64 b.next.toNat]) ∧ Below wn.heap.size wn Wv) ⟨((Bx.at_ (by simp))), ((Below.refl _ wn).alloc (by simp <;> omega) _)⟩ ?_
              rintro wa11 ⟨g8, b⟩
              replace oT := oT.below b; replace oO := oO.below b; replace oS := oS.below b; replace oK := oK.below b; try clear c_g1 f_g1 a_g1 d_g1 e_g1
              replace g1 := g1.below b; have c_g1 := g1.cell; have f_g1 := g1.free; have a_g1 := fun o => (g1.alloc o).cell; have d_g1 := fun o o2 => ((g1.alloc o).alloc o2).cell; have e_g1 := fun o => (g1.alloc o).free; try clear c_g5 f_g5 a_g5 d_g5 e_g5
              replace g5 := g5.below b; have c_g5 := g5.cell; have f_g5 := g5.free; have a_g5 := fun o => (g5.alloc o).cell; have d_g5 := fun o o2 => ((g5.alloc o).alloc o2).cell; have e_g5 := fun o => (g5.alloc o).free; replace mp := mp.below b; replace B := B.trans (b.mono B.size); clear b
              have c_g8 := g8.cell; have f_g8 := g8.free; have a_g8 := fun o => (g8.alloc o).cell; have d_g8 := fun o o2 => ((g8.alloc o).alloc o2).cell; have e_g8 := fun o => (g8.alloc o).free
              have HZ := Lib.hid (And.intro oT (And.intro oO (And.intro oS (And.intro oK (And.intro g1 (And.intro g5 (And.intro mp B)))))))
              rw [← HOB.out] at HZ
              go_wp2
              go_roundg (j - (j2 + 1))
              case measure => omega
              case rel => exact ⟨j2 + 1, by omega, rfl, by go_num, Lib.hid ⟨_, HZ.out⟩⟩
          · obtain rfl : j2 = j := by omega
            obtain ⟨ov, oT, oO, oS, oK, g1, g5, mp, B⟩ := hh.out
            obtain ⟨oA2, on2, oc2, rfl⟩ : ∃ A n c, ov = .slice A n c := by obtain ⟨vs, z1, z2, _⟩ := oO; obtain ⟨A, c, e⟩ := own_form' z2; exact ⟨A, _, c, e⟩
            have htk : L.take j2 = L := List.take_of_length_le (by rw [← HN.out]; exact Nat.le_refl _)
            rw [htk, ← HOL.out] at oO
            have HM := Lib.hid (And.intro (OwnM.mk (m := ⟨T, O.map (obOf l T O), S⟩) oT oO oS) (And.intro g1 (And.intro g5 (And.intro mp B))))
            have c_g5 := g5.cell
            clear hh oT oO oS oK g1 g5 mp B htk
            go_wp2
            clear c_g5
            go_loopg [144] 16 (fun g i wr => ∃ j3 : Nat, j3 ≤ 16 ∧ g = 16 - j3 ∧ i = .int .i64 j3 ∧ Hid (OwnM wr w.heap.size 127 (.slice tA tn tc) (.slice oA2 on2 oc2) (.slice (some ⟨gS, 0, none⟩) 16 sc) ⟨T, O.map (obOf l T O), mapT (slOf O) S j3⟩ ∧ Bx wr w.heap.size 79 #[.slice none 0 0, .slice none 0 0, .slice none 0 0] ∧ Bx wr p5 79 #[.slice tA tn tc, .slice oA2 on2 oc2, .slice (some ⟨gS, 0, none⟩) 16 sc] ∧
              MapN Try.prog 3 3 (.int .i64 0) wr pm O.length (fun a => .int .i64 (numI O a)) (fun a => decide (IsObj O a)) ∧ Below w.heap.size w wr))
            case atStart => exact ⟨0, by omega, by omega, rfl, Lib.hid (by rw [mapT_zero]; exact HM.out)⟩
            case round =>
              clear HM
              obtain ⟨j3, hj3, rfl, rfl, hh⟩ := hrel
              obtain ⟨om, g3, g5, mp, B⟩ := hh.out
              have hB0 := B.size
              by_cases hlt3 : j3 < 16
              · obtain ⟨s, hs⟩ : ∃ s, S[j3]? = some s := ⟨_, List.getElem?_eq_getElem (by rw [HS16.out]; exact hlt3)⟩
                have hs2 := mapT_get (f := slOf O) hs
                have hsm : s ∈ slots l := by rw [← HS.out]; exact List.mem_of_getElem? hs
                have hso := seen_slot HRT.out hsm
                obtain ⟨ix, q0, q1, q2⟩ := OwnS.cells om.s hs2
                have q0' := q0; have q1' := q1; have q2' := q2
                have HJ := Lib.hid (And.intro om (And.intro g3 (And.intro g5 (And.intro mp B))))
                have B1 : Below wr.heap.size wr wr := Below.refl _ _
                cases hu : s.used
                · rw [hu] at q1
                  have HE := Lib.hid (mapT_same (f := slOf O) hs (slOf_not hu))
                  have hB3 := HJ.out.2.2.2.2
                  clear hs hs2 hso hsm om g3 g5 mp B q0' q1' q2' hh
                  obtain ⟨sg, su, sa⟩ := s
                  dsimp only at q0 q1 q2 hu
                  subst hu
                  have B := hB3
                  go_upto_region 32 with (fail)
                  refine wp_gen (fun Wv => Bx Wv (wr.heap.size) (68) (#[.int .i64 sg, .bool false, .int .i64 sa]) ∧ Below wr.heap.size wr Wv) ⟨((Bx.at_ (by simp))), ((Below.refl _ wr).alloc (by simp <;> omega) _)⟩ ?_
                  rintro wa12 ⟨g8, b⟩
                  replace B1 := B1.trans (b.mono B1.size); replace B := B.trans (b.mono B.size); clear b
                  have c_g8 := g8.cell; have f_g8 := g8.free; have a_g8 := fun o => (g8.alloc o).cell; have d_g8 := fun o o2 => ((g8.alloc o).alloc o2).cell; have e_g8 := fun o => (g8.alloc o).free
                  have HZ := Lib.hid (And.intro (HJ.out.1.below B1) (And.intro (HJ.out.2.1.below B1) (And.intro (HJ.out.2.2.1.below B1) (And.intro (HJ.out.2.2.2.1.below B1) B))))
                  clear ix q0 q1 q2
                  go_wp2
                  go_roundg (16 - (j3 + 1))
                  case measure => omega
                  case rel =>
                    refine ⟨j3 + 1, by omega, rfl, by go_num, ?_⟩
                    rw [HE.out]; exact HZ
                · rw [hu] at q1
                  obtain ⟨a1, a2, a3⟩ := hso.2.2.2 hu
                  obtain ⟨c, hcm, hce⟩ : IsObj O s.at_ := by rw [HO.out]; exact HRT.out.slots s hsm hu
                  have hnr := numI_rng (a := s.at_) HO9.out
                  obtain ⟨k, hk⟩ : ∃ k, k = numI O s.at_ := ⟨_, rfl⟩
                  have HE := Lib.hid (show (mapT (slOf O) S j3).set j3 ⟨s.gen, s.used, k⟩ = mapT (slOf O) S (j3 + 1) by
                    rw [← mapT_set hs, slOf_used hu, hu, hk, numI_idxI ⟨c, hcm, hce⟩])
                  have hB3 := HJ.out.2.2.2.2
                  have HSS := Lib.hid hs2
                  obtain ⟨sg, su, sa⟩ := s
                  dsimp only at q0 q1 q2 hu a1 a2 a3 hk hnr
                  subst hu
                  have HK := Lib.hid hk
                  clear hs hs2 hso hsm om g3 g5 mp B q0' q1' q2' hh hcm hce hk hnr
                  have B := hB3
                  go_upto_region 32 with (fail)
                  refine wp_gen (fun Wv => Bx Wv (wr.heap.size) (68) (#[.int .i64 sg, .bool true, .int .i64 sa]) ∧ Below wr.heap.size wr Wv) ⟨((Bx.at_ (by simp))), ((Below.refl _ wr).alloc (by simp <;> omega) _)⟩ ?_
                  rintro wa13 ⟨g8, b⟩
                  replace B1 := B1.trans (b.mono B1.size); replace B := B.trans (b.mono B.size); clear b
                  have c_g8 := g8.cell; have f_g8 := g8.free; have a_g8 := fun o => (g8.alloc o).cell; have d_g8 := fun o o2 => ((g8.alloc o).alloc o2).cell; have e_g8 := fun o => (g8.alloc o).free
                  have om := HJ.out.1.below B1; have g3 := HJ.out.2.1.below B1; have g5 := HJ.out.2.2.1.below B1; have mp := HJ.out.2.2.2.1.below B1
                  clear q0 q1 q2
                  obtain ⟨_, _, _, q2⟩ := OwnS.cells om.s HSS.out
                  dsimp only at q2
                  have ml := mp.mapL.lookI Try.underlying3 Try.underlying134 Try.underlying3 (zero_int _) (a := sa) ⟨by omega, by omega⟩
                  rw [← HK.out] at ml
                  have HP := Lib.hid (OwnS.put1 om.s HSS.out k)
                  have fz := HP.out.2.2.2.2
                  have hM3 := OwnM.slotsE om HP.out.2.1 HP.out.1 (by decide) (by decide) (by decide) (by decide)
                  have n3 : gS ≠ w.heap.size := own_ne_bx om.s g3 (by decide)
                  have n5 : gS ≠ p5 := own_ne_bx om.s g5 (by decide)
                  have r3 := g3.grown HP.out.2.1 (.inr (fun e => n3 (by injection e)))
                  have r4 := g5.grown HP.out.2.1 (.inr (fun e => n5 (by injection e)))
                  obtain ⟨es, ck, hmb⟩ := mp.mapL.block
                  have r5 := mp.kept HP.out.2.1 (fun e => by
                    rcases own_ne_map om.s hmb with h | h
                    · cases h
                    · exact h (by injection e with e; rw [e]; rfl))
                  have hb3 := B.grown HP.out.2.1 B.size (fun k hk => by injection hk with hk; rw [← hk]; exact HP.out.2.2.1)
                  have HZ := Lib.hid (And.intro hM3 (And.intro r3 (And.intro r4 (And.intro r5 hb3))))
                  have c_g5 := g5.cell
                  clear hM3 r3 r4 r5 hb3 om g3 g5 mp hmb f_g8 a_g8 d_g8 e_g8
                  go_wp2
                  clear q2 fz ml c_g5 c_g8 g8
                  go_roundg (16 - (j3 + 1))
                  case measure => omega
                  case rel =>
                    refine ⟨j3 + 1, by omega, rfl, by go_num, Lib.hid ?_⟩
                    rw [← HE.out]; exact HZ.out
              · obtain rfl : j3 = 16 := by omega
                rw [mapT_done (by rw [HS16.out]; exact Nat.le_refl _)] at om
                have HOM := Lib.hid om
                clear hh om mp
                have c_g3 := g3.cell
                have f_g3 := g3.free
                have c_g5 := g5.cell
                go_wp2
                refine bodyPost_ret (v := .tuple #[.agg #[.slice tA tn tc, .slice oA2 on2 oc2, .slice (some ⟨gS, 0, none⟩) 16 sc], .int .i64 0]) (by simp [results, Try.results42, go_sem, c_g3, f_g3]) rfl ?_
                refine ⟨_, _, _, rfl, OwnM.set3E HOM.out g3 (by decide), ?_⟩
                exact ((B.setCell (p := ⟨w.heap.size, 0, none⟩) (by simp) _).setCell (p := ⟨w.heap.size, 1, none⟩) (by simp) _).setCell (p := ⟨w.heap.size, 2, none⟩) (by simp) _
end Go.Proofs.Ytbfmdbeeiicabaa
namespace Go.Proofs.Ytbfmdbeeiicabaa
open Go.RowKit L01 L02 L05 L06 L07 L13 L14 L15 L18 L19 L20
set_option maxRecDepth 100000 in
set_option maxHeartbeats 4000000 in
theorem OfRM_any (v : Value) (l : List UInt64) (m : Mo) (r : Int) (hm : m = ofM l) (hr : r = chk19 l) (w : World) (h : Words w v l) :
    Calls Try.prog 43 #[v] w fun e w' => ∃ t' o' s', e = .returned (.tuple #[.agg #[t', o', s'], .int .i64 r]) ∧ OwnM w' w.heap.size 68 t' o' s' m ∧ Below w.heap.size w w' := by
  have B : Below w.heap.size w w := Below.refl _ _
  have H := Lib.hid h
  have CK := Lib.hid (fun w h => Check19R_any v l r hr w h)
  by_cases h0 : r = 0
  case neg =>
    have hm0 : m = .nil := by rw [hm, ofM, if_neg (by rw [← hr]; exact h0)]
    subst hm0
    have n1 : (r != 0) = true := by rw [bne_iff_ne]; exact h0
    clear hm hr h h0
    go_enter Try.func43, Try.ntmps43
    go_upto_region 1 with (fail)
    refine wp_gen (fun Wv => Bx Wv (w.heap.size) (79) (#[.slice none 0 0, .slice none 0 0, .slice none 0 0]) ∧ Below w.heap.size w Wv) ⟨((Bx.at_ (by simp))), ((Below.refl _ w).alloc (by simp <;> omega) _)⟩ ?_
    rintro wa1 ⟨g1, b⟩
    replace B := B.trans (b.mono B.size); clear b
    have c_g1 := g1.cell; have f_g1 := g1.free; have a_g1 := fun o => (g1.alloc o).cell; have d_g1 := fun o o2 => ((g1.alloc o).alloc o2).cell; have e_g1 := fun o => (g1.alloc o).free
    go_wp2_with fail
    refine (CK.out _ (H.out.below B)).mono ?_
    rintro e wa2 ⟨rfl, b⟩
    try clear c_g1 f_g1 a_g1 d_g1 e_g1
    replace g1 := g1.below b; have c_g1 := g1.cell; have f_g1 := g1.free; have a_g1 := fun o => (g1.alloc o).cell; have d_g1 := fun o o2 => ((g1.alloc o).alloc o2).cell; have e_g1 := fun o => (g1.alloc o).free; replace B := B.trans (b.mono B.size); clear b
    go_wp2
    refine bodyPost_ret (v := .tuple #[.agg #[.slice none 0 0, .slice none 0 0, .slice none 0 0], .int .i64 r]) (by simp [results, Try.results43, go_sem, c_g1, f_g1]) rfl ?_
    refine ⟨_, _, _, rfl, ⟨OwnT.nil _ _, OwnO.nil _ _, OwnS.nil _ _ _⟩, ?_⟩
    exact ((B.setCell (p := ⟨w.heap.size, 0, none⟩) (by simp) _).setCell (p := ⟨w.heap.size, 1, none⟩) (by simp) _).setCell (p := ⟨w.heap.size, 2, none⟩) (by simp) _
  case pos =>
    subst h0
    have rt : Rt l := Rt.of hr.symm
    have SN := Lib.hid (fun w h => SeenR_any v l rt w h)
    have hm2 : m = L19.seen l := by rw [hm, ofM, if_pos hr.symm]
    subst hm2
    clear hm hr h rt
    go_enter Try.func43, Try.ntmps43
    go_upto_region 1 with (fail)
    refine wp_gen (fun Wv => Bx Wv (w.heap.size) (79) (#[.slice none 0 0, .slice none 0 0, .slice none 0 0]) ∧ Below w.heap.size w Wv) ⟨((Bx.at_ (by simp))), ((Below.refl _ w).alloc (by simp <;> omega) _)⟩ ?_
    rintro wa1 ⟨g1, b⟩
    replace B := B.trans (b.mono B.size); clear b
    have c_g1 := g1.cell; have f_g1 := g1.free; have a_g1 := fun o => (g1.alloc o).cell; have d_g1 := fun o o2 => ((g1.alloc o).alloc o2).cell; have e_g1 := fun o => (g1.alloc o).free
    go_wp2_with fail
    refine (CK.out _ (H.out.below B)).mono ?_
    rintro e wa2 ⟨rfl, b⟩
    try clear c_g1 f_g1 a_g1 d_g1 e_g1
    replace g1 := g1.below b; have c_g1 := g1.cell; have f_g1 := g1.free; have a_g1 := fun o => (g1.alloc o).cell; have d_g1 := fun o o2 => ((g1.alloc o).alloc o2).cell; have e_g1 := fun o => (g1.alloc o).free; replace B := B.trans (b.mono B.size); clear b
    have hz2 := B.size
    go_wp2_with fail
    refine (SN.out _ (H.out.below B)).mono ?_
    rintro e wa3 ⟨t', o', s', rfl, om, b⟩
    try clear c_g1 f_g1 a_g1 d_g1 e_g1
    replace g1 := g1.below b; have c_g1 := g1.cell; have f_g1 := g1.free; have a_g1 := fun o => (g1.alloc o).cell; have d_g1 := fun o o2 => ((g1.alloc o).alloc o2).cell; have e_g1 := fun o => (g1.alloc o).free; replace B := B.trans (b.mono B.size); clear b
    obtain ⟨⟨tA, tn, tc, rfl⟩, ⟨oA, on, oc, rfl⟩, ⟨sA, sn, sc, rfl⟩⟩ := om.forms
    have HM := Lib.hid (om.mono hz2)
    clear om
    go_wp2
    refine bodyPost_ret (v := .tuple #[.agg #[.slice tA tn tc, .slice oA on oc, .slice sA sn sc], .int .i64 0]) (by simp [results, Try.results43, go_sem, c_g1, f_g1]) rfl ?_
    refine ⟨_, _, _, rfl, HM.out.set3 g1, ?_⟩
    exact ((B.setCell (p := ⟨w.heap.size, 0, none⟩) (by simp) _).setCell (p := ⟨w.heap.size, 1, none⟩) (by simp) _).setCell (p := ⟨w.heap.size, 2, none⟩) (by simp) _
end Go.Proofs.Ytbfmdbeeiicabaa
namespace Go.Proofs.Ytbfmdbeeiicabaa
open Go.RowKit L02 L05 L13 L19 L20
set_option maxRecDepth 100000 in
set_option maxHeartbeats 4000000 in
theorem ModelOf_walk (v0 : Value) (l : List UInt64) (w : World) (h0 : Words w v0 l) :
    Calls Try.prog 10 #[v0] w fun e w' => e = .returned (.bool true) ∧ Below w.heap.size w w' := by
  have B : Below w.heap.size w w := Below.refl _ _
  have H := Lib.hid h0; clear h0
  have G := Lib.hid (fun w h => Great_any v0 l w h)
  obtain ⟨gr, hgr⟩ : ∃ g, g = decide (2100 < l.length) := ⟨_, rfl⟩
  rw [← hgr] at G
  clear hgr
  cases gr
  case true =>
    go_enter Try.func10, Try.ntmps10
    go_wp2_with fail
    refine (G.out _ H.out).mono ?_
    rintro e w2 ⟨rfl, rfl⟩
    go_wp2
    go_ret
    exact ⟨rfl, B⟩
  case false =>
    obtain ⟨m, hm⟩ : ∃ n, n = ofM l := ⟨_, rfl⟩
    obtain ⟨c, hc⟩ : ∃ c, c = chk19 l := ⟨_, rfl⟩
    have T1 := Lib.hid (fun w h => OfM_any v0 l m c hm hc w h)
    have T2 := Lib.hid (fun w h => OfRM_any v0 l m c hm hc w h)
    have T3 := Lib.hid (fun ta oa sa tb ob sb w ha hb => Same20_any ta oa sa tb ob sb m m true (by simp) w ha hb)
    clear hm hc
    go_enter Try.func10, Try.ntmps10
    go_wp2_with fail
    refine (G.out _ H.out).mono ?_
    rintro e w2 ⟨rfl, rfl⟩
    go_wp2_with fail
    refine (T1.out _ (H.out.below B)).mono ?_
    rintro e wa1 ⟨ta, oa, sa, rfl, o1, b⟩
    replace B := B.trans (b.mono B.size); clear b
    have M1 := o1.rd
    obtain ⟨⟨tA, tn, tc, rfl⟩, ⟨oA, on, oc, rfl⟩, ⟨sA, sn, sc, rfl⟩⟩ := o1.forms
    clear o1
    go_upto_region 4 with (fail)
    refine wp_gen (fun Wv => Bx Wv (wa1.heap.size) (79) (#[.slice tA tn tc, .slice oA on oc, .slice sA sn sc]) ∧ Below wa1.heap.size wa1 Wv) ⟨((Bx.at_ (by simp))), ((Below.refl _ wa1).alloc (by simp <;> omega) _)⟩ ?_
    rintro wa2 ⟨g1, b⟩
    replace M1 := M1.below b; replace B := B.trans (b.mono B.size); clear b
    have c_g1 := g1.cell; have f_g1 := g1.free; have a_g1 := fun o => (g1.alloc o).cell; have d_g1 := fun o o2 => ((g1.alloc o).alloc o2).cell; have e_g1 := fun o => (g1.alloc o).free
    go_wp2_with fail
    refine (T2.out _ (H.out.below B)).mono ?_
    rintro e wa3 ⟨tb, ob, sb, rfl, o2, b⟩
    replace M1 := M1.below b; try clear c_g1 f_g1 a_g1 d_g1 e_g1
    replace g1 := g1.below b; have c_g1 := g1.cell; have f_g1 := g1.free; have a_g1 := fun o => (g1.alloc o).cell; have d_g1 := fun o o2 => ((g1.alloc o).alloc o2).cell; have e_g1 := fun o => (g1.alloc o).free; replace B := B.trans (b.mono B.size); clear b
    have M2 := o2.rd
    obtain ⟨⟨tA2, tn2, tc2, rfl⟩, ⟨oA2, on2, oc2, rfl⟩, ⟨sA2, sn2, sc2, rfl⟩⟩ := o2.forms
    clear o2
    go_upto_region 5 with (fail)
    refine wp_gen (fun Wv => Bx Wv (wa3.heap.size) (79) (#[.slice tA2 tn2 tc2, .slice oA2 on2 oc2, .slice sA2 sn2 sc2]) ∧ Below wa3.heap.size wa3 Wv) ⟨((Bx.at_ (by simp))), ((Below.refl _ wa3).alloc (by simp <;> omega) _)⟩ ?_
    rintro wa4 ⟨g2, b⟩
    replace M1 := M1.below b; try clear c_g1 f_g1 a_g1 d_g1 e_g1
    replace g1 := g1.below b; have c_g1 := g1.cell; have f_g1 := g1.free; have a_g1 := fun o => (g1.alloc o).cell; have d_g1 := fun o o2 => ((g1.alloc o).alloc o2).cell; have e_g1 := fun o => (g1.alloc o).free; replace M2 := M2.below b; replace B := B.trans (b.mono B.size); clear b
    have c_g2 := g2.cell; have f_g2 := g2.free; have a_g2 := fun o => (g2.alloc o).cell; have d_g2 := fun o o2 => ((g2.alloc o).alloc o2).cell; have e_g2 := fun o => (g2.alloc o).free
    go_wp2_with fail
    refine (T3.out _ _ _ _ _ _ _ M1 M2).mono ?_
    rintro e w7 ⟨rfl, b⟩
    replace B := B.trans (b.mono B.size)
    go_wp2
    go_ret
    exact ⟨rfl, B⟩
end Go.Proofs.Ytbfmdbeeiicabaa
