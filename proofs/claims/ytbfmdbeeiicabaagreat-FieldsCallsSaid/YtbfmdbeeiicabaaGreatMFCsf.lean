/- Contracts of the functions that the law 'FieldsCalls' reaches, part 6. No condition. -/
import Derived.Test.YtbfmdbeeiicabaaGreatMFCse
set_option linter.unusedVariables false
set_option linter.unusedSimpArgs false
namespace Go.Proofs.YtbfmdbeeiicabaaGreat
open Go.RowKit L01 L02 L05 L06 L07 L13 L14 L15 L18 L19
theorem ReasonR_any (v : Value) (l : List UInt64) (n : Nat) (r : Int) (hn : n = rea l) (hr : r = reaE l) (w : World) (h : Words w v l) :
    Calls Tryz.prog 87 #[v] w fun e w' => e = .returned (.tuple #[.int .i64 n, .int .i64 r]) ∧ Below w.heap.size w w' := by
  have B : Below w.heap.size w w := Below.refl _ _
  have H := Lib.hid h
  obtain ⟨c, hc⟩ : ∃ c, c = chk l := ⟨_, rfl⟩
  have CT : Hid (∀ w, Words w v l → Calls Tryz.prog 101 #[v] w fun e w' => e = .returned (.int .i64 c) ∧ w = w') := by rw [hc]; exact Lib.hid (fun w h => CheckR_any v l w h)
  by_cases hs : SizeOk l.length
  case neg =>
    have hr0 : r = 8 := by rw [hr, reaE, if_neg hs]
    have hn0 : n = 0 := by rw [hn, rea, if_neg hs]
    have hc8 : c = 8 := by rw [hc, chk_no hs]
    subst hr0; subst hn0; subst hc8
    clear hr hn hs hc h
    go_enter Tryz.func87, Tryz.ntmps87
    go_wp2_with fail
    refine (CT.out _ (H.out.below B)).mono ?_
    rintro e w' ⟨rfl, rfl⟩
    go_wp2
    go_ret2
    exact ⟨rfl, B⟩
  case pos =>
    have hr0 : r = 0 := by rw [hr, reaE, if_pos hs]
    have hnw : n = why l := by rw [hn, rea, if_pos hs]
    have hc0 : c = 0 := by rw [hc, chk_ok hs]
    have WT := Lib.hid (fun w h => WhyR_any v l hs n hnw w h)
    subst hr0; subst hc0
    clear hr hn hs hc h hnw
    go_enter Tryz.func87, Tryz.ntmps87
    go_wp2_with fail
    refine (CT.out _ (H.out.below B)).mono ?_
    rintro e w' ⟨rfl, rfl⟩
    go_wp2_with fail
    refine (WT.out _ (H.out.below B)).mono ?_
    rintro e wa1 ⟨rfl, b⟩
    replace B := B.trans (b.mono B.size); clear b
    go_wp2
    go_ret2
    exact ⟨rfl, B⟩
theorem Check19R_any (v : Value) (l : List UInt64) (r : Int) (hr : r = chk19 l) (w : World) (h : Words w v l) :
    Calls Tryz.prog 55 #[v] w fun e w' => e = .returned (.int .i64 r) ∧ Below w.heap.size w w' := by
  have B : Below w.heap.size w w := Below.refl _ _
  have H := Lib.hid h
  obtain ⟨n, hn⟩ : ∃ n, n = rea l := ⟨_, rfl⟩
  obtain ⟨q, hq⟩ : ∃ q, q = reaE l := ⟨_, rfl⟩
  have RT := Lib.hid (fun w h => ReasonR_any v l n q hn hq w h)
  have hcase : (q = 0 ∧ n = 0 ∧ r = 0) ∨ (q = 0 ∧ 0 < n ∧ r = 50) ∨ (q = 8 ∧ r = 8) := by
    rw [hr, hn, hq]
    by_cases hs : SizeOk l.length
    · by_cases h0 : why l = 0
      · exact .inl ⟨by rw [reaE, if_pos hs], by rw [rea, if_pos hs, h0], by rw [chk19, if_pos hs, if_pos h0]⟩
      · exact .inr (.inl ⟨by rw [reaE, if_pos hs], by rw [rea, if_pos hs]; omega, by rw [chk19, if_pos hs, if_neg h0]⟩)
    · exact .inr (.inr ⟨by rw [reaE, if_neg hs], by rw [chk19, if_neg hs]⟩)
  clear hn hq hr h
  rcases hcase with ⟨rfl, rfl, rfl⟩ | ⟨rfl, h1, rfl⟩ | ⟨rfl, rfl⟩
  · skip
    go_enter Tryz.func55, Tryz.ntmps55
    go_wp2_with fail
    refine (RT.out _ (H.out.below B)).mono ?_
    rintro e wa1 ⟨rfl, b⟩
    replace B := B.trans (b.mono B.size); clear b
    go_wp2
    go_ret
    exact ⟨rfl, B⟩
  · have n1 : (0 : Int) < (n : Int) := by omega
    have n2 : decide ((0 : Int) < (n : Int)) = true := decide_eq_true n1
    go_enter Tryz.func55, Tryz.ntmps55
    go_wp2_with fail
    refine (RT.out _ (H.out.below B)).mono ?_
    rintro e wa1 ⟨rfl, b⟩
    replace B := B.trans (b.mono B.size); clear b
    go_wp2
    go_ret
    exact ⟨rfl, B⟩
  · skip
    go_enter Tryz.func55, Tryz.ntmps55
    go_wp2_with fail
    refine (RT.out _ (H.out.below B)).mono ?_
    rintro e wa1 ⟨rfl, b⟩
    replace B := B.trans (b.mono B.size); clear b
    go_wp2
    go_ret
    exact ⟨rfl, B⟩
end Go.Proofs.YtbfmdbeeiicabaaGreat
namespace Go.Proofs.YtbfmdbeeiicabaaGreat.L16
open L02 L14 L15 L19
def free (L : List Hb) : List Hb := L.filter fun b => decide (b.kind = 2)
end Go.Proofs.YtbfmdbeeiicabaaGreat.L16
namespace Go.Proofs.YtbfmdbeeiicabaaGreat.L19
open L02 L07 L13 L14 L15 L16 L18
/-- blocks that stand one behind the other, from an address to another -/
inductive Seg (l : List UInt64) : Nat → List Hb → Nat → Prop where
  | nil {k : Nat} : k ≤ l.length → Seg l k [] k
  | cons {k q : Nat} {L : List Hb} : k < l.length → StOk l k → Seg l (k + szN l k) L q → Seg l k (stand l k :: L) q
section
variable {l l' : List UInt64} {k p q : Nat} {A B L : List Hb} {b : Hb}
theorem Seg.le (h : Seg l k L q) : k ≤ q ∧ q ≤ l.length := by
  induction h with
  | nil h => exact ⟨Nat.le_refl _, h⟩
  | cons hk hs _ ih => have := szN_ge hs; omega
theorem Seg.of_chain (h : Chain l k L) : Seg l k L l.length := by
  induction h with
  | nil => exact .nil (Nat.le_refl _)
  | cons hk hs _ ih => exact .cons hk hs ih
theorem Seg.chain (h : Seg l k L q) (e : q = l.length) : Chain l k L := by
  induction h with
  | nil h => subst e; exact .nil
  | cons hk hs _ ih => exact .cons hk hs (ih e)
theorem Seg.append (h1 : Seg l k A p) (h2 : Seg l p B q) : Seg l k (A ++ B) q := by
  induction h1 with
  | nil h => exact h2
  | cons hk hs _ ih => exact .cons hk hs (ih h2)
theorem Seg.split : ∀ {A : List Hb} {k : Nat}, Seg l k (A ++ B) q → ∃ p, Seg l k A p ∧ Seg l p B q
  | [], k, h => ⟨k, .nil (Nat.le_trans (Seg.le h).1 (Seg.le h).2), h⟩
  | a :: A, k, h => by
    rw [List.cons_append] at h
    cases h with
    | cons hk hs ht =>
      obtain ⟨p, h1, h2⟩ := Seg.split ht
      exact ⟨p, .cons hk hs h1, h2⟩
theorem Seg.congr (h : Seg l k L q) (hl : l'.length = l.length) (he : ∀ i, k ≤ i → i < q → l'.getD i 0 = l.getD i 0) : Seg l' k L q := by
  induction h with
  | nil h => exact .nil (by omega)
  | cons hk hs ht ih =>
    rename_i k q L
    have hz := szN_ge hs
    have hle := ht.le
    have e0 := he k (Nat.le_refl _) (by omega)
    have e1 := he (k + 1) (by omega) (by omega)
    have es : stand l' k = stand l k := by unfold stand; rw [e0, e1]
    have ez : szN l' k = szN l k := by unfold szN; rw [e0]
    rw [← es]
    refine .cons (by omega) ?_ ?_
    · unfold StOk; rw [e0, hl]; exact hs
    · rw [ez]; exact ih (fun i h1 h2 => he i (by omega) h2)
/-- the first block -/
theorem Seg.head (h : Seg l k (b :: L) q) : b.at_ = k ∧ BkOk b ∧ b = stand l k ∧ StOk l k ∧ ((k + szN l k : Nat) : Int) = k + b.size ∧ Seg l (k + szN l k) L q := by
  cases h with
  | cons hk hs ht =>
    have hz := szN_ge hs
    refine ⟨rfl, stand_ok hs, rfl, hs, ?_, ht⟩
    rw [stand_size hs]; omega
theorem Seg.one (h : Seg l k [b] q) : b.at_ = k ∧ (q : Int) = k + b.size ∧ BkOk b := by
  obtain ⟨h1, h2, _, _, h3, h4⟩ := h.head
  cases h4 with
  | nil => exact ⟨h1, h3, h2⟩
/-- a block stands where its word does -/
theorem stand_put (hok : BkOk b) (hw : l.getD k 0 = word b) (ha : b.at_ = k) (hn : b.next = l.getD (k + 1) 0) (hle : (k : Int) + b.size ≤ l.length) : StOk l k ∧ stand l k = b ∧ (szN l k : Int) = b.size := by
  have hsp := split_word hok
  have hb := hok.bounds
  refine ⟨⟨by rw [hw]; exact hd_word hok, by rw [hw, hsp]; exact hle⟩, ?_, ?_⟩
  · unfold stand
    rw [hw, hsp, ← hn, ← ha]
  · unfold szN
    rw [hw, hsp]
    show ((b.size.toNat : Nat) : Int) = b.size
    omega
theorem Seg.put (hok : BkOk b) (hw : l.getD k 0 = word b) (ha : b.at_ = k) (hn : b.next = l.getD (k + 1) 0) (hq : (q : Int) = k + b.size) (hle : q ≤ l.length) : Seg l k [b] q := by
  obtain ⟨h1, h2, h3⟩ := stand_put hok hw ha hn (by omega)
  have hb := hok.bounds
  have e : q = k + szN l k := by omega
  have := Seg.cons (l := l) (k := k) (q := q) (L := []) (by omega) h1 (by rw [← e]; exact .nil hle)
  rw [h2] at this
  exact this
/-- the whole heap -/
theorem all_of_seg (hs : SizeOk l.length) (h : Seg l 128 L l.length) (ha : ¬ Adj L) : allErr l = 0 ∧ allL l = L := by
  have hp : parsed l = some L := parsed_ok.2 ⟨from_chain (h.chain rfl), ha⟩
  have he : allErr l = 0 := by unfold allErr; rw [if_pos hs, hp]; rfl
  exact ⟨he, by rw [allL, if_pos he, hp]; rfl⟩
theorem seg_of_all (h : allErr l = 0) : Seg l 128 (allL l) l.length ∧ ¬ Adj (allL l) := by
  obtain ⟨hs, hp⟩ := allErr_ok h
  obtain ⟨hfr, hadj⟩ := parsed_ok.1 hp
  exact ⟨.of_chain (chain_iff.1 hfr), hadj⟩
end
/-- a part of the heap: what stands before it, it, what stands behind it -/
structure Cut (l : List UInt64) (P M S : List Hb) (p q : Nat) : Prop where
  eq : allL l = P ++ (M ++ S)
  s1 : Seg l 128 P p
  s2 : Seg l p M q
  s3 : Seg l q S l.length
  na : ¬ Adj (P ++ (M ++ S))
theorem Cut.of {l : List UInt64} (h : allErr l = 0) {P M S : List Hb} (e : allL l = P ++ (M ++ S)) : ∃ p q, Cut l P M S p q := by
  obtain ⟨h1, h2⟩ := seg_of_all h
  rw [e] at h1 h2
  obtain ⟨p, a1, a2⟩ := Seg.split h1
  obtain ⟨q, a3, a4⟩ := Seg.split a2
  exact ⟨p, q, e, a1, a3, a4, h2⟩
/-- the part written anew -/
theorem Cut.new {l l' : List UInt64} {P M S N : List Hb} {p q : Nat} (hs : SizeOk l.length) (h : Cut l P M S p q) (hl : l'.length = l.length) (he : ∀ i, 128 ≤ i → i < p ∨ q ≤ i → l'.getD i 0 = l.getD i 0) (hN : Seg l' p N q) (hna : ¬ Adj (P ++ (N ++ S))) :
    allErr l' = 0 ∧ allL l' = P ++ (N ++ S) ∧ Cut l' P N S p q := by
  have b1 := h.s1.le
  have b2 := h.s2.le
  have c1 : Seg l' 128 P p := h.s1.congr hl (fun i h1 h2 => he i h1 (.inl h2))
  have c3 : Seg l' q S l'.length := by rw [hl]; exact h.s3.congr hl (fun i h1 h2 => he i (by omega) (.inr h1))
  have c := c1.append (hN.append c3)
  obtain ⟨a1, a2⟩ := all_of_seg (by rw [hl]; exact hs) c hna
  exact ⟨a1, a2, a2, c1, hN, c3, hna⟩
end Go.Proofs.YtbfmdbeeiicabaaGreat.L19
namespace Go.Proofs.YtbfmdbeeiicabaaGreat.L20
open L02 L13 L18
/-- a reference to object n -/
def isRef (m : Mo) (o : Ob) (k : Nat) (n : Nat) : Prop := ((ty m.types o).getD k 0).toNat = 3 ∧ (o.fs.getD k 0).toNat = n + 1
instance (m : Mo) (o : Ob) (k n : Nat) : Decidable (isRef m o k n) := inferInstanceAs (Decidable (_ ∧ _))
/-- another slot, or a field of another object, refers to object n -/
def Busy (m : Mo) (sl : Int) (n : Nat) : Prop := (∃ i, i < m.slots.length ∧ (i : Int) ≠ sl ∧ (m.slots.getD i .none).used = true ∧ (m.slots.getD i .none).at_ = n) ∨ ∃ i, i < m.objs.length ∧ i ≠ n ∧ ∃ k, k < (ob m i).fs.length ∧ isRef m (ob m i) k n
instance (m : Mo) (sl : Int) (n : Nat) : Decidable (Busy m sl n) := inferInstanceAs (Decidable ((∃ i, i < m.slots.length ∧ (i : Int) ≠ sl ∧ (m.slots.getD i .none).used = true ∧ (m.slots.getD i .none).at_ = n) ∨ ∃ i, i < m.objs.length ∧ i ≠ n ∧ ∃ k, k < (ob m i).fs.length ∧ isRef m (ob m i) k n))
end Go.Proofs.YtbfmdbeeiicabaaGreat.L20
namespace Go.Proofs.YtbfmdbeeiicabaaGreat.L20
open L02 L13 L18
end Go.Proofs.YtbfmdbeeiicabaaGreat.L20
namespace Go.Proofs.YtbfmdbeeiicabaaGreat.L20
open L02 L13 L18
def kidAt (m : Mo) (o : Ob) (i : Nat) : Option Nat := if ((ty m.types o).getD i 0).toNat = 3 ∧ 0 < (o.fs.getD i 0).toNat then some ((o.fs.getD i 0).toNat - 1) else none
def kidsTo (m : Mo) (o : Ob) (p : Nat) : List Nat := (List.range p).filterMap (kidAt m o)
def kids (m : Mo) (n : Nat) : List Nat := kidsTo m (ob m n) (ob m n).fs.length
/-- out is what is found, ord has been found, l is to be looked at -/
inductive Rs (m : Mo) : List Nat → List Nat → List Nat → Prop
  | nil (ord : List Nat) : Rs m ord [] ord
  | seen {ord l out : List Nat} {n : Nat} : n ∈ ord → Rs m ord l out → Rs m ord (n :: l) out
  | new {ord l out : List Nat} {n : Nat} : n ∉ ord → Rs m (ord ++ [n]) (kids m n ++ l) out → Rs m ord (n :: l) out
section
variable {m : Mo} {ord l out : List Nat}
theorem Rs.join {mid : List Nat} {a : List Nat} (h : Rs m ord a mid) : ∀ {b out}, Rs m mid b out → Rs m ord (a ++ b) out := by
  induction h with
  | nil ord => intro b out h; exact h
  | seen h1 _ ih => intro b out h; exact .seen h1 (ih h)
  | new h1 _ ih =>
    intro b out h
    have h2 := ih h
    rw [List.append_assoc] at h2
    exact .new h1 h2
theorem Rs.pre (h : Rs m ord l out) : ord <+: out := by
  induction h with
  | nil ord => exact List.prefix_refl _
  | seen _ _ ih => exact ih
  | new _ _ ih => exact (List.prefix_append _ _).trans ih
theorem Rs.all {p : Nat → Prop} (hk : ∀ n, p n → ∀ k ∈ kids m n, p k) (h : Rs m ord l out) : (∀ n ∈ ord, p n) → (∀ n ∈ l, p n) → ∀ n ∈ out, p n := by
  induction h with
  | nil ord => intro h _; exact h
  | seen _ _ ih => intro h1 h2; exact ih h1 fun n hn => h2 n (List.mem_cons_of_mem _ hn)
  | @new ord l out n _ _ ih =>
    intro h1 h2
    have hpn := h2 n List.mem_cons_self
    refine ih (fun x hx => ?_) fun x hx => ?_
    · rcases List.mem_append.1 hx with h | h
      · exact h1 x h
      · rw [List.mem_singleton.1 h]; exact hpn
    · rcases List.mem_append.1 hx with h | h
      · exact hk n hpn x h
      · exact h2 x (List.mem_cons_of_mem _ h)
end
/-- .. in so many steps -/
inductive Rn (m : Mo) : Nat → List Nat → List Nat → List Nat → Prop
  | nil (ord : List Nat) : Rn m 0 ord [] ord
  | seen {ord l out : List Nat} {n d : Nat} : n ∈ ord → Rn m d ord l out → Rn m (d + 1) ord (n :: l) out
  | new {ord l out : List Nat} {n d : Nat} : n ∉ ord → Rn m d (ord ++ [n]) (kids m n ++ l) out → Rn m (d + 1) ord (n :: l) out
theorem Rs.steps {m : Mo} {ord l out : List Nat} (h : Rs m ord l out) : ∃ d, Rn m d ord l out := by
  induction h with
  | nil ord => exact ⟨0, .nil _⟩
  | seen h1 _ ih => obtain ⟨d, h⟩ := ih; exact ⟨d + 1, .seen h1 h⟩
  | new h1 _ ih => obtain ⟨d, h⟩ := ih; exact ⟨d + 1, .new h1 h⟩
theorem Rn.rs {m : Mo} {ord l out : List Nat} {d : Nat} (h : Rn m d ord l out) : Rs m ord l out := by
  induction h with
  | nil ord => exact .nil _
  | seen h1 _ ih => exact .seen h1 ih
  | new h1 _ ih => exact .new h1 ih
theorem Rn.len {m : Mo} {ord l out : List Nat} {d : Nat} (h : Rn m d ord l out) : l.length ≤ d := by
  induction h with
  | nil ord => simp
  | seen h1 _ ih => simp; exact ih
  | new h1 _ ih => simp at ih ⊢; omega
theorem Rn.all {m : Mo} {p : Nat → Prop} (hk : ∀ n, p n → ∀ k ∈ kids m n, p k) {ord l out : List Nat} {d : Nat} (h : Rn m d ord l out) (h1 : ∀ n ∈ ord, p n) (h2 : ∀ n ∈ l, p n) : ∀ n ∈ out, p n := h.rs.all hk h1 h2
theorem Rn.end {m : Mo} {ord out : List Nat} {d : Nat} (h : Rn m d ord [] out) : out = ord := by cases h; rfl
end Go.Proofs.YtbfmdbeeiicabaaGreat.L20
namespace Go.Proofs.YtbfmdbeeiicabaaGreat.L20
open L02 L13 L18
/-- of the same types -/
def Like (m m' : Mo) : Prop := m'.types = m.types ∧ m'.objs.length = m.objs.length ∧ ∀ k, (ob m' k).ty = (ob m k).ty ∧ (ob m' k).fs.length = (ob m k).fs.length
theorem Like.refl (m : Mo) : Like m m := ⟨rfl, rfl, fun _ => ⟨rfl, rfl⟩⟩
section
variable {φ : UInt8 → UInt64 → UInt64} {m : Mo} {n i : Nat}
end
end Go.Proofs.YtbfmdbeeiicabaaGreat.L20
namespace Go.Proofs.YtbfmdbeeiicabaaGreat.L20
open L02 L13 L18
/-- the first j of a list changed -/
def mapT {α : Type} (f : α → α) (L : List α) (j : Nat) : List α := (L.take j).map f ++ L.drop j
section
variable {α : Type} {f : α → α} {L : List α} {k : Nat} {s : α}
theorem mapT_zero : mapT f L 0 = L := by simp [mapT]
theorem mapT_done (h : L.length ≤ k) : mapT f L k = L.map f := by simp [mapT, List.take_of_length_le h, List.drop_of_length_le h]
theorem mapT_len : (mapT f L k).length = L.length := by simp [mapT]; omega
theorem mapT_get (hs : L[k]? = some s) : (mapT f L k)[k]? = some s := by
  have hk : k < L.length := (List.getElem?_eq_some_iff.1 hs).1
  rw [mapT, List.getElem?_append_right (by simp; omega)]
  simp [Nat.min_eq_left (Nat.le_of_lt hk), hs]
theorem mapT_set (hs : L[k]? = some s) : (mapT f L k).set k (f s) = mapT f L (k + 1) := by
  have hk : k < L.length := (List.getElem?_eq_some_iff.1 hs).1
  have hd : L.drop k = s :: L.drop (k + 1) := by
    rw [List.drop_eq_getElem_cons hk]; congr 1
    rw [List.getElem?_eq_getElem hk] at hs; injection hs
  rw [mapT, mapT, List.take_add_one, hs, hd]
  rw [List.set_append_right _ _ (by simp; omega)]
  simp [Nat.min_eq_left (Nat.le_of_lt hk)]
theorem mapT_same (hs : L[k]? = some s) (hf : f s = s) : mapT f L (k + 1) = mapT f L k := by
  rw [← mapT_set hs, hf]
  apply List.ext_getElem?
  intro i
  by_cases hi : i = k
  · subst hi
    rw [List.getElem?_set_self (by rw [mapT_len]; exact (List.getElem?_eq_some_iff.1 hs).1), mapT_get hs]
  · rw [List.getElem?_set_ne (Ne.symm hi)]
end
section
variable {m : Mo} {q n i : Nat}
end
def sk (q w : Nat) : Nat := if w < q then w else w + 1
end Go.Proofs.YtbfmdbeeiicabaaGreat.L20
namespace Go.Proofs.YtbfmdbeeiicabaaGreat.L19
open L02 L07 L13 L14 L15 L16 L18 L20
theorem objs_pair {l : List UInt64} (h : allErr l = 0) : (O19 l).Pairwise fun a b => a.at_ + a.size ≤ b.at_ := by
  unfold O19 objs
  exact List.Pairwise.filter _ (chain_apart (chain_iff.1 (parsed_ok.1 (allErr_ok h).2).1)).2
theorem objs_idx {l : List UInt64} (h : allErr l = 0) {i j : Nat} {b : Hb} (hi : (O19 l)[i]? = some b) (hj : (O19 l)[j]? = some b) : i = j := by
  have hp := List.pairwise_iff_getElem.1 (objs_pair h)
  obtain ⟨a, _, _, h3, _, _, _, _, h8, _⟩ := objs_at h (List.mem_of_getElem? hi)
  obtain ⟨i1, i2⟩ := List.getElem?_eq_some_iff.1 hi
  obtain ⟨j1, j2⟩ := List.getElem?_eq_some_iff.1 hj
  rcases Nat.lt_trichotomy i j with hlt | e | hlt
  · have := hp i j i1 j1 hlt
    rw [i2, j2] at this; omega
  · exact e
  · have := hp j i j1 i1 hlt
    rw [i2, j2] at this; omega
theorem idx_at {l : List UInt64} (h : allErr l = 0) {i : Nat} {b : Hb} (hi : (O19 l)[i]? = some b) : idx (O19 l) b.at_ = some i := by
  obtain ⟨j, c, h1, h2, h3, _⟩ := idx_of ⟨b, List.mem_of_getElem? hi, rfl⟩
  have hc := objs_inj h (List.mem_of_getElem? h2) (List.mem_of_getElem? hi) h3
  subst hc
  rw [h1, objs_idx h h2 hi]
theorem fldV_not {O : List Hb} {k : UInt8} {v : UInt64} (h : k.toNat ≠ 3) : fldV O k v = v := if_neg h
theorem fldV_ref {O : List Hb} {k : UInt8} {v : UInt64} (h : k.toNat = 3) : fldV O k v = refV O v := if_pos h
/-- images that are the same in front of the heap -/
structure Front (l l' : List UInt64) : Prop where
  len : l'.length = l.length
  take : l'.take 128 = l.take 128
section
variable {l l' : List UInt64}
theorem Front.get (h : Front l l') {i : Nat} (hi : i < 128) : l'.getD i 0 = l.getD i 0 := by
  rw [List.getD_eq_getElem?_getD, List.getD_eq_getElem?_getD, ← List.getElem?_take_of_lt hi, h.take, List.getElem?_take_of_lt hi]
theorem Front.part (h : Front l l') {a n : Nat} (ha : a + n ≤ 128) : (l'.drop a).take n = (l.drop a).take n := by
  have e : ∀ m : List UInt64, (m.drop a).take n = ((m.take 128).drop a).take n := fun m => by
    rw [List.drop_take, List.take_take, Nat.min_eq_left (by omega)]
  rw [e l', e l, h.take]
theorem Front.super (h : Front l l') : rErr l' = rErr l ∧ sT l' = sT l := by
  have h0 : c0 l' = c0 l := by have := h.part (a := 0) (n := 8) (by omega); rwa [List.drop_zero, List.drop_zero] at this
  have h1 : c1 l' = c1 l := h.part (a := 8) (n := 8) (by omega)
  have e0 : is0 l' = is0 l := by unfold is0; rw [h0, h.len]
  have e1 : is1 l' = is1 l := by unfold is1; rw [h1, h.len]
  have e2 : rErr l' = rErr l := by unfold rErr; rw [e0, e1, h.len]
  exact ⟨e2, by unfold sT one; rw [e2, e0, h0, h1]⟩
theorem Front.zr (h : Front l l') {a : Nat} (ha : a + 8 ≤ 128) : Zr l' a ↔ Zr l a := by
  unfold Zr
  constructor <;> intro hh i hi <;> have := hh i hi <;> rw [h.get (by omega)] at * <;> exact this
theorem Front.tab (h : Front l l') (n : Int) : tabErr l' n = tabErr l n ∧ tabT l' n = tabT l n := by
  have e0 : ∀ i, i < 8 → ta l' i = ta l i ∧ tb l' i = tb l i := fun i hi => by unfold ta tb; exact ⟨h.get (by omega), h.get (by omega)⟩
  have e : ∀ k, TysOk l' k ↔ TysOk l k := fun k => by
    unfold TysOk
    constructor <;> intro hh i hi <;> have := hh i hi <;> unfold TyOk at * <;> rw [(e0 i hi).1, (e0 i hi).2] at * <;> exact this
  have e2 : tabErr l' n = tabErr l n := by unfold tabErr; rw [h.len]; simp only [e]
  refine ⟨e2, ?_⟩
  unfold tabT
  rw [e2]
  by_cases h0 : tabErr l n = 0
  · rw [if_pos h0, if_pos h0]
    have hn : n.toNat ≤ 8 := by
      unfold tabErr at h0
      split at h0
      · split at h0
        · omega
        · omega
      · omega
    unfold tysTo
    refine List.map_congr_left fun i hi => ?_
    have := List.mem_range.1 hi
    rw [(e0 i (by omega)).1, (e0 i (by omega)).2]
  · rw [if_neg h0, if_neg h0]
theorem Front.open_ (h : Front l l') : openErr l' = openErr l ∧ slots l' = slots l := by
  have e : ws l' = ws l := h.part (a := 112) (n := 16) (by omega)
  refine ⟨?_, by unfold slots; rw [e]⟩
  have e2 : AllR l' ↔ AllR l := by unfold AllR; rw [e]
  unfold openErr; rw [h.len]; simp only [e2]
theorem Front.types (h : Front l l') : T19 l' = T19 l := by unfold T19; rw [h.super.2, (h.tab _).2]
/-- a right image whose heap is written anew -/
theorem Front.rt (f : Front l l') (h : Rt l) (ha : allErr l' = 0) (hg : ∀ b ∈ O19 l', Idle b ∧ Typed (T19 l) b ∧ Padded l' (T19 l) b ∧ FloatsB l' (T19 l) b ∧ RefsB l' (T19 l) (O19 l') b) (hs : SlotsGood (slots l) (O19 l')) : Rt l' := by
  refine ⟨by rw [f.len]; exact h.sz, f.super.1.trans h.tw, (f.zr (by omega)).2 h.z16, (f.zr (by omega)).2 h.z24, by rw [f.super.2, (f.tab _).1]; exact h.ty, f.open_.1.trans h.sl, ha, ?_, by rw [f.open_.2]; exact hs⟩
  intro i h1 h2 b hb
  rw [f.types]
  obtain ⟨g1, g2, g3, g4, g5⟩ := hg b hb
  rcases (show i = 7 ∨ i = 8 ∨ i = 9 ∨ i = 10 ∨ i = 11 by omega) with rfl | rfl | rfl | rfl | rfl
  · exact g1
  · exact g2
  · exact g3
  · exact g4
  · exact g5
theorem Front.refl (l : List UInt64) : Front l l := ⟨rfl, rfl⟩
theorem Front.trans {m : List UInt64} (h : Front l l') (h2 : Front l' m) : Front l m := ⟨h2.len.trans h.len, h2.take.trans h.take⟩
end
end Go.Proofs.YtbfmdbeeiicabaaGreat.L19
namespace Go.Proofs.YtbfmdbeeiicabaaGreat
open Go.RowKit L01 L02 L05 L06 L07 L13 L14 L15 L16 L18 L19
end Go.Proofs.YtbfmdbeeiicabaaGreat
namespace Go.Proofs.YtbfmdbeeiicabaaGreat
open Go.RowKit L02
def RetW (w : World) (l : List UInt64) (e : Ending) (w' : World) : Prop := ∃ v, e = .returned v ∧ OwnW w' w.heap.size 40 v l ∧ Below w.heap.size w w'
theorem Twin_any (v : Value) (l : List UInt64) (w : World) (h : Words w v l) (hl : l.length ≤ 1048576) : Calls Tryz.prog 7 #[v] w (RetW w l) := by
  have H := Lib.hid h; clear h
  go_enter Tryz.func7, Tryz.ntmps7
  go_wp2_with (at_builtin
               refine wpList_append (by rfl) rfl rfl rfl Tryz.underlying22 info_u64 rfl (by omega) (lit0_own (Nat.le_refl _)) (by exact H.out.alloc _) (one_u64s _) (by omega) (by omega) ((Below.refl _ w).alloc (Nat.le_refl _) _) (Nat.le_refl _) ?_
               intro v1 w1 hown hbel hv)
  go_ret
  exact ⟨v1, rfl, OwnW.of hown (by simp), hbel⟩
end Go.Proofs.YtbfmdbeeiicabaaGreat
namespace Go.Proofs.YtbfmdbeeiicabaaGreat
open Go.RowKit L02
theorem OwnI.push {w : World} {B E n : Nat} {v : Value} {l : List Int} {x : Int} {xs : List Value} (h : w.ownsRow B E 1 v n (xs ++ [Value.int .i64 x])) (hx : xs = l.map i64) : OwnI w B E v (l ++ [x]) :=
  OwnI.of h (by subst hx; simp [i64])
end Go.Proofs.YtbfmdbeeiicabaaGreat
namespace Go.Proofs.YtbfmdbeeiicabaaGreat
open Go.RowKit L02 L05 L06 L07
end Go.Proofs.YtbfmdbeeiicabaaGreat
namespace Go.Proofs.YtbfmdbeeiicabaaGreat
open Go.RowKit L02 L05 L06 L07
/-- entries: two cells each -/
def eC (E : List (Int × UInt64)) : List Value := E.flatMap fun e => [.int .i64 e.1, .int .u64 e.2.toNat]
theorem eC_len (E : List (Int × UInt64)) : (eC E).length = E.length * 2 := by
  induction E with
  | nil => rfl
  | cons h H ih => simp only [eC, List.flatMap_cons, List.length_append, List.length_cons, List.length_nil] at *; omega
theorem eC_get : ∀ (E : List (Int × UInt64)) (k : Nat) (e : Int × UInt64), E[k]? = some e → (eC E)[k * 2]? = some (.int .i64 e.1) ∧ (eC E)[k * 2 + 1]? = some (.int .u64 e.2.toNat)
  | [], k, h, hk => by simp at hk
  | x :: H, 0, h, hk => by simp at hk; subst hk; exact ⟨rfl, rfl⟩
  | x :: H, k + 1, h, hk => by
    have := eC_get H k h (by simpa using hk)
    rw [show (k + 1) * 2 = k * 2 + 1 + 1 by omega]
    simpa [eC] using this
def Ents (w : World) (v : Value) (E : List (Int × UInt64)) : Prop := Rd w 2 v E.length (eC E)
def OwnE (w : World) (base : Nat) (v : Value) (E : List (Int × UInt64)) : Prop := w.ownsRow base 61 2 v E.length (eC E)
theorem OwnE.rd {w : World} {base : Nat} {v : Value} {E : List (Int × UInt64)} (h : OwnE w base v E) : Ents w v E := Rd.of_own h
theorem Ents.below {w w' : World} {v : Value} {E : List (Int × UInt64)} (h : Ents w v E) (hb : Below w.heap.size w w') : Ents w' v E := Rd.below h hb
theorem OwnE.below {w w' : World} {base : Nat} {v : Value} {E : List (Int × UInt64)} (h : OwnE w base v E) (hb : Below w.heap.size w w') : OwnE w' base v E := own_below h hb
theorem OwnE.nil (w : World) (base : Nat) : OwnE w base (.slice none 0 0) [] := World.ownsRow_nil w base _ 2
theorem OwnE.of {w : World} {B n : Nat} {v : Value} {xs : List Value} {E : List (Int × UInt64)} (h : w.ownsRow B 61 2 v n xs) (hx : xs = eC E) : OwnE w B v E := by
  subst hx
  have hn : n = E.length := by have := h.1; rw [eC_len] at this; omega
  subst hn; exact h
theorem size_ent : (Tryz.prog.info? 61).map (·.size) = some 2 := by kernel_rfl
theorem Ents.at_ {w : World} {v : Value} {E : List (Int × UInt64)} (h : Ents w v E) {k : Nat} (hk : k < E.length) :
    ∃ b o a x, (∀ W, (Instr.indexAt 27 v (.int .i64 (k : Int))).run Tryz.prog W = .ok (.pointer (some ⟨b, o, none⟩)) W) ∧ w.cell? ⟨b, o, none⟩ = some (.int .i64 a) ∧ w.cell? ⟨b, o + 1, none⟩ = some (.int .u64 (UInt64.toNat x)) ∧ Hid (E[k]? = some (a, x)) := by
  have hix := fun W => Rd.ixN h Tryz.underlying27 size_ent hk W
  obtain ⟨b, o, c, rfl, hb, hc, hcell⟩ := Rd.form h (by omega)
  have hs : E[k]? = some (E[k].1, E[k].2) := List.getElem?_eq_getElem hk
  have t := eC_get E k _ hs
  exact ⟨b, o + k * 2, E[k].1, E[k].2, fun W => hix W, hcell _ _ t.1, hcell _ _ t.2, Lib.hid hs⟩
theorem ent_neq (a c : Int) (b d : UInt64) (r : Bool) (hr : r = !(a == c && b == d)) (W : World) : (binOp .neq 61 (.agg #[.int .i64 a, .int .u64 b.toNat]) (.agg #[.int .i64 c, .int .u64 d.toNat])).run Tryz.prog W = .ok (.bool r) W := by
  subst hr
  have e : (b == d) = ((b.toNat : Int) == (d.toNat : Int)) := by
    rw [Bool.eq_iff_iff, beq_iff_eq, beq_iff_eq]
    exact ⟨fun h => by rw [h], fun h => UInt64.toNat_inj.1 (by omega)⟩
  rw [e]
  cases h : (a == c) <;> cases h2 : ((b.toNat : Int) == (d.toNat : Int)) <;> simp [go_sem, h, h2]
def hE (V : List UInt64) (l : List Int) : List (Int × UInt64) := l.map fun i => (i, V.getD i.toNat 0)
end Go.Proofs.YtbfmdbeeiicabaaGreat
namespace Go.Proofs.YtbfmdbeeiicabaaGreat.L19
open L02 L07 L13 L14 L15 L16 L18 L20
/-- the error of a handle of an image -/
def askI (l : List UInt64) (sl g : Int) : Int := if chk19 l = 0 then resErr l sl g else chk19 l
def atI (l : List UInt64) (sl g : Int) : Int := if askI l sl g = 0 then res l sl g else 0
/-- the error of a field, its address, its kind -/
def kiErr (l : List UInt64) (sl g n : Int) : Int := if askI l sl g = 0 then (if 0 ≤ n ∧ n < (kinds (seen l) sl).length then 0 else 2) else askI l sl g
def kiAt (l : List UInt64) (sl g n : Int) : Int := if kiErr l sl g n = 0 then res l sl g + 2 + n else 0
def kiK (l : List UInt64) (sl g n : Int) : UInt8 := if kiErr l sl g n = 0 then (kinds (seen l) sl).getD n.toNat 0 else 0
def wdI (l : List UInt64) (sl g n : Int) : UInt64 := l.getD (kiAt l sl g n).toNat 0
def giE (l : List UInt64) (sl g n : Int) : Int := if kiErr l sl g n = 0 then (if (kiK l sl g n).toNat = 3 then 42 else 0) else kiErr l sl g n
def giV (l : List UInt64) (sl g n : Int) : UInt64 := if giE l sl g n = 0 then wdI l sl g n else 0
def siL (l : List UInt64) (sl g n : Int) (x : UInt64) : List (Int × UInt64) := if giE l sl g n = 0 then [(kiAt l sl g n, setV (kiK l sl g n) x)] else []
def riE (l : List UInt64) (sl g n : Int) (tq : Option (Int × Int)) : Int := if kiErr l sl g n = 0 then (if (kiK l sl g n).toNat = 3 then (match tq with | none => 0 | some t => resErr l t.1 t.2) else 42) else kiErr l sl g n
def riV (l : List UInt64) (tq : Option (Int × Int)) : UInt64 := match tq with | none => 0 | some t => UInt64.ofNat (res l t.1 t.2).toNat
def riL (l : List UInt64) (sl g n : Int) (tq : Option (Int × Int)) : List (Int × UInt64) := if riE l sl g n tq = 0 then [(kiAt l sl g n, riV l tq)] else []
def oiE (l : List UInt64) (sl g n : Int) : Int := if kiErr l sl g n = 0 then (if (kiK l sl g n).toNat = 3 then (if wdI l sl g n = 0 then 6 else newErr l (wdI l sl g n).toNat) else 42) else kiErr l sl g n
def oiL (l : List UInt64) (sl g n : Int) : List (Int × UInt64) := if oiE l sl g n = 0 then [(newAt l (wdI l sl g n).toNat, newVal l (wdI l sl g n).toNat)] else []
def oiS (l : List UInt64) (sl g n : Int) : Int := if oiE l sl g n = 0 then newSlot l (wdI l sl g n).toNat else 0
def oiG (l : List UInt64) (sl g n : Int) : Int := if oiE l sl g n = 0 then newGen l (wdI l sl g n).toNat else 0
/-- a handle that is right: its slot, its object -/
structure Hd (l : List UInt64) (k a nn q : Nat) (sg : Int) (b : Hb) (t : List UInt8) : Prop where
  rt : Rt l
  hk : k < 16
  hs : (slots l)[k]? = some ⟨sg, true, a⟩
  ho : (O19 l)[nn]? = some b
  hat : b.at_ = a
  hty : b.ty = q
  hT : (T19 l)[q]? = some t
  hkB : kindsB (T19 l) b = t
  ha1 : 128 ≤ a
  ha2 : a < 2048
  hle : a + 2 + t.length ≤ l.length
  hn8 : t.length ≤ 8
  hres : res l k sg = a
  hr : resErr l k sg = 0
  hask : askI l k sg = 0
  hati : atI l k sg = a
  hnn : nn < 960
theorem Hd.of {l : List UInt64} {sl g : Int} (h : askI l sl g = 0) : ∃ k a nn q b t, sl = ((k : Nat) : Int) ∧ Hd l k a nn q g b t := by
  have h0 := h
  unfold askI at h
  split at h
  · rename_i hc
    have rt : Rt l := Rt.of hc
    obtain ⟨_, k, s, hk, e1, hs, hu, hg, hr, e2⟩ := resErr_ok h
    obtain ⟨sg, su, sa⟩ := s
    dsimp only at hu hg e2
    subst hu; subst hg
    obtain ⟨nn, b, i1, i2, i3, i4⟩ := idx_of (rt.slots _ (List.mem_of_getElem? hs) rfl)
    dsimp only at i1 i3
    obtain ⟨a, q, t, ha, hq, hTq, hkB, ha1, ha2, hle, hn8⟩ : ∃ (a q : Nat) (t : List UInt8), b.at_ = a ∧ b.ty = q ∧ (T19 l)[q]? = some t ∧ kindsB (T19 l) b = t ∧ 128 ≤ a ∧ a ≤ 2048 ∧ a + 2 + t.length ≤ l.length ∧ t.length ≤ 8 := by
      have hb := List.mem_of_getElem? i2
      obtain ⟨a, h1, h2, h3, h4, h5, h6, h7, h8, _⟩ := objs_at rt.al hb
      have hty : Typed (T19 l) b := rt.good 8 (by omega) (by omega) b hb
      have hok : BkOk b := by rw [h6]; exact stand_ok h5
      obtain ⟨q, hq⟩ := Int.eq_ofNat_of_zero_le hok.bounds.2.2.2.2.1
      have hlt : q < (T19 l).length := by have := hty.1; omega
      have hT : (T19 l)[q]? = some (T19 l)[q] := List.getElem?_eq_getElem hlt
      have hkB : kindsB (T19 l) b = (T19 l)[q] := by unfold kindsB; rw [hq, Int.toNat_natCast, List.getD_eq_getElem?_getD, hT]; rfl
      have hsz := hty.2
      rw [hkB] at hsz
      have := rt.sz.2.1
      exact ⟨a, q, _, h2, hq, hT, hkB, h1, by omega, by omega, (kErr_ok ((T19_ok rt.ty).2 _ (List.mem_of_getElem? hT))).1⟩
    have hsa : sa = a := by rw [← ha, i3]
    subst hsa
    have hOl := objs_len rt.al
    subst e1
    refine ⟨k, a, nn, q, b, t, rfl, rt, hk, hs, i2, ha, hq, hTq, hkB, ha1, ?_, hle, hn8, e2, h, h0, ?_, by omega⟩
    · have := rt.sz.2.1; omega
    · rw [atI, if_pos h0, e2]
  · omega
theorem Hd.own {l : List UInt64} {k a nn q : Nat} {sg : Int} {b : Hb} {t : List UInt8} (h : Hd l k a nn q sg b t) : own (seen l) k = nn := by
  unfold L20.own seen
  rw [Int.toNat_natCast, List.getD_eq_getElem?_getD, List.getElem?_map, h.hs, Option.map_some]
  unfold slOf
  rw [if_pos rfl, ← h.hat, idx_at h.rt.al h.ho]
  rfl
theorem Hd.ob {l : List UInt64} {k a nn q : Nat} {sg : Int} {b : Hb} {t : List UInt8} (h : Hd l k a nn q sg b t) : ob (seen l) nn = obOf l (T19 l) (O19 l) b := by
  unfold L20.ob seen
  rw [List.getD_eq_getElem?_getD, List.getElem?_map, h.ho]; rfl
theorem Hd.kinds {l : List UInt64} {k a nn q : Nat} {sg : Int} {b : Hb} {t : List UInt8} (h : Hd l k a nn q sg b t) : kinds (seen l) k = t := by
  unfold L20.kinds
  rw [h.own, h.ob]
  show kindsB (T19 l) b = t
  exact h.hkB
/-- a field that is there -/
structure Fd (l : List UInt64) (k a nn q i : Nat) (sg : Int) (b : Hb) (t : List UInt8) (kd : UInt8) (x : UInt64) : Prop where
  hd : Hd l k a nn q sg b t
  hi : i < t.length
  hkd : t[i]? = some kd
  hx : l[a + 2 + i]? = some x
  hE : kiErr l k sg i = 0
  hAt : kiAt l k sg i = ((a + 2 + i : Nat) : Int)
  hK : kiK l k sg i = kd
  hW : wdI l k sg i = x
  ref : kd.toNat = 3 → x = 0 ∨ IsObj (O19 l) x.toNat
theorem Fd.of {l : List UInt64} {sl g n : Int} (h : kiErr l sl g n = 0) : ∃ k a nn q i b t kd x, sl = ((k : Nat) : Int) ∧ n = ((i : Nat) : Int) ∧ Fd l k a nn q i g b t kd x := by
  have h0 := h
  unfold kiErr at h
  split at h
  · rename_i ha
    split at h
    · rename_i hn
      obtain ⟨k, a, nn, q, b, t, rfl, hd⟩ := Hd.of ha
      obtain ⟨i, rfl⟩ := Int.eq_ofNat_of_zero_le hn.1
      have hi : i < t.length := by have := hn.2; rw [hd.kinds] at this; omega
      have hAt : kiAt l k g i = ((a + 2 + i : Nat) : Int) := by rw [kiAt, if_pos h0, hd.hres]; omega
      have hlt : a + 2 + i < l.length := by have := hd.hle; omega
      refine ⟨k, a, nn, q, i, b, t, t[i], l[a + 2 + i], rfl, rfl, hd, hi, List.getElem?_eq_getElem hi, List.getElem?_eq_getElem hlt, h0, hAt, ?_, ?_, ?_⟩
      · rw [kiK, if_pos h0, hd.kinds, Int.toNat_natCast, List.getD_eq_getElem?_getD, List.getElem?_eq_getElem hi]; rfl
      · rw [wdI, hAt, Int.toNat_natCast, List.getD_eq_getElem?_getD, List.getElem?_eq_getElem hlt]; rfl
      · intro h3
        have := hd.rt.good 11 (by omega) (by omega) b (List.mem_of_getElem? hd.ho) i (by rw [hd.hkB]; exact hi) (by rw [hd.hkB, List.getD_eq_getElem?_getD, List.getElem?_eq_getElem hi]; exact h3)
        have hf : fw l b i = l[a + 2 + i] := by unfold fw; rw [hd.hat, Int.toNat_natCast, List.getD_eq_getElem?_getD, List.getElem?_eq_getElem hlt]; rfl
        rw [hf] at this; exact this
    · omega
  · rename_i ha; exact absurd h ha
end Go.Proofs.YtbfmdbeeiicabaaGreat.L19
namespace Go.Proofs.YtbfmdbeeiicabaaGreat
open Go.RowKit L01 L02 L05 L06 L07 L13 L14 L15 L18 L19
theorem findB_first : ∀ {L : List Hb} {a : Int} {j : Nat} {b : Hb}, L[j]? = some b → b.at_ = a → (∀ i c, i < j → L[i]? = some c → c.at_ ≠ a) → findB L a = some b
  | [], _, _, _, h, _, _ => by cases h
  | c :: L, a, 0, b, h, e, _ => by
    simp at h; subst h
    unfold findB
    rw [List.find?_cons_of_pos (by simpa using e)]
  | c :: L, a, j + 1, b, h, e, hz => by
    have hc := hz 0 c (by omega) rfl
    unfold findB
    rw [List.find?_cons_of_neg (by simpa using hc)]
    exact findB_first (by simpa using h) e (fun i c' hi hc' => hz (i + 1) c' (by omega) (by simpa using hc'))
theorem findB_none {L : List Hb} {a : Int} (h : ∀ b ∈ L, b.at_ ≠ a) : findB L a = none := by
  unfold findB
  rw [List.find?_eq_none]
  intro b hb
  simpa using h b hb
set_option maxRecDepth 100000 in
set_option maxHeartbeats 2000000 in
theorem Find_any (v : Value) (l : List UInt64) (a : Int) (b : Hb) (r : Int) (hb : b = find l a) (hr : r = findErr l a) (w : World) (h : Words w v l) :
    Calls Tryz.prog 80 #[v, .int .i64 a] w fun e w' => e = .returned (.tuple #[.agg #[.int .i64 b.at_, .int .i64 b.size, .int .i64 b.kind, .int .i64 b.ty, .bool b.mark, .int .u64 b.next.toNat], .int .i64 r]) ∧ Below w.heap.size w w' := by
  have B : Below w.heap.size w w := Below.refl _ _
  have H := Lib.hid h
  obtain ⟨L, hL⟩ : ∃ L, L = allL l := ⟨_, rfl⟩
  obtain ⟨c, hc⟩ : ∃ c, c = allErr l := ⟨_, rfl⟩
  have WT := Lib.hid (fun w h => AllW_any v l L c hL hc w h)
  by_cases h0 : c = 0
  case neg =>
    have hr0 : r = c := by rw [hr, findErr, if_neg (by rw [← hc]; exact h0), hc]
    have hb0 : b = .none := by rw [hb, find, if_neg (by rw [← hr, hr0]; exact h0)]
    subst hr0; subst hb0
    have n1 : (r != 0) = true := by rw [bne_iff_ne]; exact h0
    clear hb hr h hL hc h0
    go_enter Tryz.func80, Tryz.ntmps80
    go_upto_region 1 with (fail)
    refine wp_gen (fun Wv => Bx Wv (w.heap.size) (69) (#[.int .i64 0, .int .i64 0, .int .i64 0, .int .i64 0, .bool false, .int .u64 0]) ∧ Below w.heap.size w Wv) ⟨((Bx.at_ (by simp))), ((Below.refl _ w).alloc (by simp <;> omega) _)⟩ ?_
    rintro wa1 ⟨g1, b⟩
    replace B := B.trans (b.mono B.size); clear b
    have c_g1 := g1.cell; have f_g1 := g1.free; have a_g1 := fun o => (g1.alloc o).cell; have d_g1 := fun o o2 => ((g1.alloc o).alloc o2).cell; have e_g1 := fun o => (g1.alloc o).free
    go_wp2_with fail
    refine (WT.out _ (H.out.below B)).mono ?_
    rintro e wa2 ⟨xl, rfl, ol, b⟩
    try clear c_g1 f_g1 a_g1 d_g1 e_g1
    replace g1 := g1.below b; have c_g1 := g1.cell; have f_g1 := g1.free; have a_g1 := fun o => (g1.alloc o).cell; have d_g1 := fun o o2 => ((g1.alloc o).alloc o2).cell; have e_g1 := fun o => (g1.alloc o).free; replace B := B.trans (b.mono B.size); clear b
    go_wp2
    refine bodyPost_ret (v := .tuple #[.agg #[.int .i64 0, .int .i64 0, .int .i64 0, .int .i64 0, .bool false, .int .u64 0], .int .i64 r]) (by simp [results, Tryz.results80, go_sem, c_g1, f_g1, a_g1, e_g1]) rfl ?_
    refine ⟨rfl, ?_⟩
    (repeat (first | refine Below.setCell ?_ (by first | exact Nat.le_refl _ | (simp <;> omega)) _ | refine Below.alloc ?_ (by first | exact B.size | (have := B.size; simp <;> omega)) _)); exact B
  case pos =>
    subst h0
    have hl9 : L.length ≤ 960 := by rw [hL]; exact all_len hc.symm
    have hrb : (∀ x ∈ L, x.at_ = a → findB L a = some x → b = x ∧ r = 0) ∧ (findB L a = none → b = .none ∧ r = 6) := by
      constructor
      · intro x hx e hf
        have hr0 : r = 0 := by rw [hr, findErr, if_pos hc.symm, ← hL, hf]; rfl
        exact ⟨by rw [hb, find, if_pos (by rw [← hr]; exact hr0), ← hL, hf]; rfl, hr0⟩
      · intro hf
        have hr0 : r = 6 := by rw [hr, findErr, if_pos hc.symm, ← hL, hf]; rfl
        exact ⟨by rw [hb, find, if_neg (by rw [← hr, hr0]; decide)], hr0⟩
    obtain ⟨N, hN⟩ : ∃ N, N = L.length := ⟨_, rfl⟩
    have HN := Lib.hid hN; have HRB := Lib.hid hrb
    have hN9 : N ≤ 960 := by omega
    clear hb hr h hL hc hl9 hN hrb
    go_enter Tryz.func80, Tryz.ntmps80
    go_upto_region 1 with (fail)
    refine wp_gen (fun Wv => Bx Wv (w.heap.size) (69) (#[.int .i64 0, .int .i64 0, .int .i64 0, .int .i64 0, .bool false, .int .u64 0]) ∧ Below w.heap.size w Wv) ⟨((Bx.at_ (by simp))), ((Below.refl _ w).alloc (by simp <;> omega) _)⟩ ?_
    rintro wa1 ⟨g1, b⟩
    replace B := B.trans (b.mono B.size); clear b
    have c_g1 := g1.cell; have f_g1 := g1.free; have a_g1 := fun o => (g1.alloc o).cell; have d_g1 := fun o o2 => ((g1.alloc o).alloc o2).cell; have e_g1 := fun o => (g1.alloc o).free
    go_wp2_with fail
    refine (WT.out _ (H.out.below B)).mono ?_
    rintro e wa2 ⟨xl, rfl, ol, b⟩
    try clear c_g1 f_g1 a_g1 d_g1 e_g1
    replace g1 := g1.below b; have c_g1 := g1.cell; have f_g1 := g1.free; have a_g1 := fun o => (g1.alloc o).cell; have d_g1 := fun o o2 => ((g1.alloc o).alloc o2).cell; have e_g1 := fun o => (g1.alloc o).free; replace B := B.trans (b.mono B.size); clear b
    have lx := ol.rd.len
    rw [← HN.out] at lx
    have HO := Lib.hid ol.rd
    have hB1 := B.size; have hp1 := g1.lt
    have HB := Lib.hid (And.intro g1 B)
    have HBB := Lib.hid (Below.refl wa2.heap.size wa2)
    clear ol g1 B c_g1 f_g1 a_g1 d_g1 e_g1
    go_wp2
    go_loopg [21] N (fun g i wr => ∃ j : Nat, j ≤ N ∧ g = N - j ∧ i = .int .i64 j ∧ Hid (Below wa2.heap.size wa2 wr ∧ ∀ i c, i < j → L[i]? = some c → c.at_ ≠ a))
    case atStart => exact ⟨0, by omega, by omega, rfl, Lib.hid ⟨HBB.out, fun i c hi => by omega⟩⟩
    case round =>
      obtain ⟨j, hj, rfl, rfl, hh⟩ := hrel
      clear HBB
      have B2 := hh.out.1
      have HZ := Lib.hid hh.out.2
      have g1 := HB.out.1.below B2
      have B := HB.out.2.trans (B2.mono hB1)
      clear hh
      by_cases hlt : j < N
      · obtain ⟨bb, oo, x, ia, m0, m1, m2, m3, m4, m5, hx, _⟩ := (Blks.below HO.out B2).at_ (k := j) (by rw [← HN.out]; exact hlt)
        have HX := Lib.hid hx.out
        by_cases he : x.at_ = a
        · have k1 : (x.at_ == a) = true := by rw [beq_iff_eq]; exact he
          obtain ⟨q1, q2⟩ := HRB.out.1 x (List.mem_of_getElem? hx.out) he (findB_first hx.out he HZ.out)
          subst q2
          have HQ := Lib.hid q1
          have ne12 : w.heap.size ≠ wr.heap.size := by have := g1.lt; omega
          clear he q1 hx
          go_upto_region 7 with (fail)
          refine wp_gen (fun Wv => Bx Wv (wr.heap.size) (69) (#[.int .i64 x.at_, .int .i64 x.size, .int .i64 x.kind, .int .i64 x.ty, .bool x.mark, .int .u64 x.next.toNat]) ∧ Below wr.heap.size wr Wv) ⟨((Bx.at_ (by simp))), ((Below.refl _ wr).alloc (by simp <;> omega) _)⟩ ?_
          rintro wa3 ⟨g2, b⟩
          try clear c_g1 f_g1 a_g1 d_g1 e_g1
          replace g1 := g1.below b; have c_g1 := g1.cell; have f_g1 := g1.free; have a_g1 := fun o => (g1.alloc o).cell; have d_g1 := fun o o2 => ((g1.alloc o).alloc o2).cell; have e_g1 := fun o => (g1.alloc o).free; replace B2 := B2.trans (b.mono B2.size); replace B := B.trans (b.mono B.size); clear b
          have c_g2 := g2.cell; have f_g2 := g2.free; have a_g2 := fun o => (g2.alloc o).cell; have d_g2 := fun o o2 => ((g2.alloc o).alloc o2).cell; have e_g2 := fun o => (g2.alloc o).free
          go_wp2
          refine bodyPost_ret (v := .tuple #[.agg #[.int .i64 x.at_, .int .i64 x.size, .int .i64 x.kind, .int .i64 x.ty, .bool x.mark, .int .u64 x.next.toNat], .int .i64 0]) (by simp [results, Tryz.results80, go_sem, c_g1, f_g1, a_g1, e_g1, c_g2, f_g2, a_g2, e_g2]) rfl ?_
          refine ⟨by rw [HQ.out], ?_⟩
          (repeat (first | refine Below.setCell ?_ (by first | exact Nat.le_refl _ | (simp <;> omega)) _ | refine Below.alloc ?_ (by first | exact B.size | (have := B.size; simp <;> omega)) _)); exact B
        · have k1 : (x.at_ == a) = false := by rw [beq_eq_false_iff_ne]; exact he
          have HZ2 : Hid (∀ i c, i < j + 1 → L[i]? = some c → c.at_ ≠ a) := Lib.hid (fun i c hi hc => by
            by_cases e : i = j
            · subst e; rw [HX.out] at hc; injection hc with hc; subst hc; exact he
            · exact HZ.out i c (by omega) hc)
          clear he hx
          go_upto_region 7 with (fail)
          refine wp_gen (fun Wv => Bx Wv (wr.heap.size) (69) (#[.int .i64 x.at_, .int .i64 x.size, .int .i64 x.kind, .int .i64 x.ty, .bool x.mark, .int .u64 x.next.toNat]) ∧ Below wr.heap.size wr Wv) ⟨((Bx.at_ (by simp))), ((Below.refl _ wr).alloc (by simp <;> omega) _)⟩ ?_
          rintro wa4 ⟨g2, b⟩
          replace B2 := B2.trans (b.mono B2.size); replace B := B.trans (b.mono B.size); clear b
          have c_g2 := g2.cell; have f_g2 := g2.free; have a_g2 := fun o => (g2.alloc o).cell; have d_g2 := fun o o2 => ((g2.alloc o).alloc o2).cell; have e_g2 := fun o => (g2.alloc o).free
          have HQ := Lib.hid (And.intro B2 HZ2.out)
          go_wp2
          go_roundg (N - (j + 1))
          case measure => omega
          case rel => exact ⟨j + 1, by omega, rfl, by go_num, HQ⟩
      · obtain rfl : j = N := by omega
        have hf : findB L a = none := findB_none (fun y hy => by
          obtain ⟨i, hi⟩ := List.getElem?_of_mem hy
          exact HZ.out i y (by rw [HN.out]; exact (List.getElem?_eq_some_iff.1 hi).1) hi)
        obtain ⟨q1, q2⟩ := HRB.out.2 hf
        subst q2
        have HQ := Lib.hid q1
        clear hf q1
        have c_g1 := g1.cell; have f_g1 := g1.free
        go_wp2
        refine bodyPost_ret (v := .tuple #[.agg #[.int .i64 0, .int .i64 0, .int .i64 0, .int .i64 0, .bool false, .int .u64 0], .int .i64 6]) (by simp [results, Tryz.results80, go_sem, c_g1, f_g1]) rfl ?_
        refine ⟨by rw [HQ.out]; rfl, ?_⟩
        (repeat (first | refine Below.setCell ?_ (by first | exact Nat.le_refl _ | (simp <;> omega)) _ | refine Below.alloc ?_ (by first | exact B.size | (have := B.size; simp <;> omega)) _)); exact B
set_option maxRecDepth 100000 in
set_option maxHeartbeats 1000000 in
theorem Same22_any (va vb : Value) (La Lb : List (Int × UInt64)) (r : Bool) (hr : r = decide (La = Lb)) (w : World) (ha : Ents w va La) (hb : Ents w vb Lb) :
    Calls Tryz.prog 14 #[va, vb] w fun e w' => e = .returned (.bool r) ∧ Below w.heap.size w w' := by
  have B : Below w.heap.size w w := Below.refl _ _
  have la1 := Rd.len ha Tryz.underlying27; have lb1 := Rd.len hb Tryz.underlying27
  have la2 := Rd.len_le ha; have lb2 := Rd.len_le hb
  have HA := Lib.hid ha; have HB := Lib.hid hb; have HR := Lib.hid hr; clear ha hb hr
  obtain ⟨na, hna⟩ : ∃ na, na = La.length := ⟨_, rfl⟩
  obtain ⟨nb, hnb⟩ : ∃ nb, nb = Lb.length := ⟨_, rfl⟩
  rw [← hna] at la1 la2; rw [← hnb] at lb1 lb2
  have Hna := Lib.hid hna; have Hnb := Lib.hid hnb; clear hna hnb
  by_cases hl : na = nb
  · subst hl
    go_enter Tryz.func14, Tryz.ntmps14
    go_wp2
    have HBB := Lib.hid B; clear B
    go_loopw [5] (fun i wr => ∃ k : Nat, k ≤ na ∧ i = .int .i64 k ∧ Hid (La.take k = Lb.take k) ∧ Below w.heap.size w wr) (fun i _ => na - (intOf i).toNat)
    case atStart => exact ⟨0, Nat.zero_le _, rfl, Lib.hid rfl, HBB.out⟩
    case round =>
      obtain ⟨k, hk, rfl, heq, B⟩ := hrel
      by_cases hlt : k < na
      · obtain ⟨b, o, s1, s2, ia, m0, m1, hs⟩ := (HA.out.below B).at_ (k := k) (by have := Hna.out; omega)
        obtain ⟨b', o', t1, t2, ib, m3, m4, ht⟩ := (HB.out.below B).at_ (k := k) (by have := Hnb.out; omega)
        obtain ⟨c, hc⟩ : ∃ c, c = !(s1 == t1 && s2 == t2) := ⟨_, rfl⟩
        have q := fun W => ent_neq s1 t1 s2 t2 c hc W
        have HC := Lib.hid hc; clear hc
        cases c
        · go_wp2
          refine wp_region_calm (by kernel_rfl) (by kernel_rfl) ?_
          have c_m0 := fun x : Fut _ => cell_later x.h m0
          have c_m1 := fun x : Fut _ => cell_later x.h m1
          have c_m3 := fun x : Fut _ => cell_later x.h m3
          have c_m4 := fun x : Fut _ => cell_later x.h m4
          repeat (go_big_quiet_step (fail))
          refine wpQuiet_nil ?_
          intro _ hw'
          obtain ⟨xq, hw''⟩ := hw'
          subst hw''
          clear c_m0; replace m0 := cell_later xq.h m0
          clear c_m1; replace m1 := cell_later xq.h m1
          clear c_m3; replace m3 := cell_later xq.h m3
          clear c_m4; replace m4 := cell_later xq.h m4
          replace B := B.trans (xq.h.mono B.size)
          go_wp2
          go_roundw
          case rel =>
            have e : s1 = t1 ∧ s2 = t2 := by have := HC.out; simpa using this
            refine ⟨k + 1, by omega, by go_num, Lib.hid ?_, B⟩
            rw [List.take_add_one, List.take_add_one, heq.out, hs.out, ht.out, e.1, e.2]
          case measure => simp [intOf]; omega
        · go_wp2
          refine wp_region_calm (by kernel_rfl) (by kernel_rfl) ?_
          have c_m0 := fun x : Fut _ => cell_later x.h m0
          have c_m1 := fun x : Fut _ => cell_later x.h m1
          have c_m3 := fun x : Fut _ => cell_later x.h m3
          have c_m4 := fun x : Fut _ => cell_later x.h m4
          repeat (go_big_quiet_step (fail))
          refine wpQuiet_nil ?_
          intro _ hw'
          obtain ⟨xq, hw''⟩ := hw'
          subst hw''
          clear c_m0; replace m0 := cell_later xq.h m0
          clear c_m1; replace m1 := cell_later xq.h m1
          clear c_m3; replace m3 := cell_later xq.h m3
          clear c_m4; replace m4 := cell_later xq.h m4
          replace B := B.trans (xq.h.mono B.size)
          go_wp2
          go_ret
          refine ⟨ret_bool ?_, B⟩
          have e : ¬ (s1 = t1 ∧ s2 = t2) := by have := HC.out; intro h; simp [h.1, h.2] at this
          rw [HR.out, eq_comm, decide_eq_false_iff_not]
          intro hab
          have h1 := hs.out; have h2 := ht.out
          rw [hab, h2] at h1
          injection h1 with h1
          injection h1 with h1 h3
          exact e ⟨h1.symm, h3.symm⟩
      · obtain rfl : k = na := by omega
        go_wp2
        go_ret
        refine ⟨ret_bool ?_, B⟩
        have h1 := heq.out
        rw [List.take_of_length_le (by have := Hna.out; omega), List.take_of_length_le (by have := Hnb.out; omega)] at h1
        rw [HR.out, h1]; simp
  · have hl' : ((na : Int) != nb) = true := by rw [bne_iff_ne]; omega
    go_enter Tryz.func14, Tryz.ntmps14
    go_wp2
    go_ret
    refine ⟨ret_bool ?_, B⟩
    rw [HR.out, eq_comm, decide_eq_false_iff_not]
    intro hab
    have h1 := Hna.out; have h2 := Hnb.out
    rw [hab] at h1; omega
end Go.Proofs.YtbfmdbeeiicabaaGreat



namespace Go.Proofs.YtbfmdbeeiicabaaGreat
open Go.RowKit L02 L13 L18 L20
theorem size_obj : (Tryz.prog.info? 152).map (·.size) = some 2 := by kernel_rfl
theorem info_obj : (Tryz.prog.info? 152).map (fun i => (i.zero, i.size, i.bytes)) = some (some (.agg #[.int .i64 0, .slice none 0 0]), 2, 32) := by kernel_rfl
/-- the cells of objects, whose fields are the slices vs -/
def obC : List Ob → List Value → List Value
  | o :: L, x :: vs => i64 o.ty :: x :: obC L vs
  | _, _ => []
theorem obC_len : ∀ {L : List Ob} {vs : List Value}, vs.length = L.length → (obC L vs).length = L.length * 2
  | [], _, _ => rfl
  | o :: L, [], h => by simp at h
  | o :: L, x :: vs, h => by rw [obC, List.length_cons, List.length_cons, obC_len (by simpa using h), List.length_cons]; omega
theorem obC_get : ∀ {L : List Ob} {vs : List Value} {k : Nat} {o : Ob} {x : Value}, L[k]? = some o → vs[k]? = some x → (obC L vs)[k * 2]? = some (i64 o.ty) ∧ (obC L vs)[k * 2 + 1]? = some x
  | [], _, _, _, _, h, _ => by simp at h
  | o :: L, [], _, _, _, _, h => by simp at h
  | o :: L, x :: vs, 0, o', x', h, h' => by simp at h h'; subst h; subst h'; simp [obC]
  | o :: L, x :: vs, k + 1, o', x', h, h' => by
    have := obC_get (L := L) (vs := vs) (k := k) (by simpa using h) (by simpa using h')
    rw [obC, show (k + 1) * 2 = k * 2 + 1 + 1 by omega, show k * 2 + 1 + 1 + 1 = (k * 2 + 1) + 1 + 1 by omega]
    simpa using this
theorem obC_snoc : ∀ {L : List Ob} {vs : List Value} {o : Ob} {x : Value}, vs.length = L.length → obC (L ++ [o]) (vs ++ [x]) = obC L vs ++ [i64 o.ty, x]
  | [], [], _, _, _ => rfl
  | [], x :: vs, _, _, h => by simp at h
  | o :: L, [], _, _, h => by simp at h
  | o :: L, x :: vs, o', x', h => by
    rw [List.cons_append, List.cons_append, obC, obC_snoc (by simpa using h), obC]; rfl
/-- A slice of objects. -/
def Objs (w : World) (v : Value) (L : List Ob) : Prop := ∃ vs : List Value, vs.length = L.length ∧ Rd w 2 v L.length (obC L vs) ∧ ∀ (i : Nat) x o, vs[i]? = some x → L[i]? = some o → Words w x o.fs
/-- .. of the call's own, their fields too, which lie apart -/
def OwnO (w : World) (base : Nat) (v : Value) (L : List Ob) : Prop := ∃ vs : List Value, vs.length = L.length ∧ w.ownsRow base 152 2 v L.length (obC L vs) ∧ (∀ (i : Nat) x o, vs[i]? = some x → L[i]? = some o → OwnW w base 40 x o.fs) ∧
  ∀ (i j : Nat) x y, i ≠ j → vs[i]? = some x → vs[j]? = some y → x.ownBlock = none ∨ x.ownBlock ≠ y.ownBlock
theorem OwnO.rd {w : World} {base : Nat} {v : Value} {L : List Ob} (h : OwnO w base v L) : Objs w v L := by
  obtain ⟨vs, h1, h2, h4, _⟩ := h; exact ⟨vs, h1, Rd.of_own h2, fun i x l h5 h6 => (h4 i x l h5 h6).rd⟩
theorem Objs.below {w w' : World} {v : Value} {L : List Ob} (h : Objs w v L) (hb : Below w.heap.size w w') : Objs w' v L := by
  obtain ⟨vs, h1, h2, h3⟩ := h; exact ⟨vs, h1, h2.below hb, fun i x l h4 h5 => (h3 i x l h4 h5).below hb⟩
theorem OwnO.below {w w' : World} {base : Nat} {v : Value} {L : List Ob} (h : OwnO w base v L) (hb : Below w.heap.size w w') : OwnO w' base v L := by
  obtain ⟨vs, h1, h2, h4, h5⟩ := h; exact ⟨vs, h1, own_below h2 hb, fun i x l h5 h6 => (h4 i x l h5 h6).below hb, h5⟩
theorem OwnO.mono {w : World} {base base' : Nat} {v : Value} {L : List Ob} (h : OwnO w base v L) (hb : base' ≤ base) : OwnO w base' v L := by
  obtain ⟨vs, h1, h2, h4, h5⟩ := h; exact ⟨vs, h1, own_mono h2 hb, fun i x l h5 h6 => own_mono (h4 i x l h5 h6) hb, h5⟩
theorem OwnT.mono {w : World} {base base' : Nat} {v : Value} {L : List (List UInt8)} (h : OwnT w base v L) (hb : base' ≤ base) : OwnT w base' v L := by
  obtain ⟨vs, h1, h2, h4⟩ := h; exact ⟨vs, h1, own_mono h2 hb, fun i x l h5 h6 => own_mono (h4 i x l h5 h6) hb⟩
theorem OwnO.nil (w : World) (base : Nat) : OwnO w base (.slice none 0 0) [] := ⟨[], rfl, World.ownsRow_nil w base _ 2, fun i x l h => by simp at h, fun i j x y _ h => by simp at h⟩
theorem Objs.nil (w : World) : Objs w (.slice none 0 0) [] := (OwnO.nil w 0).rd
theorem Typs.nil (w : World) : Typs w (.slice none 0 0) [] := (OwnT.nil w 0).rd
theorem Slots.nil (w : World) : Slots w (.slice none 0 0) [] := Rd.nil w 3
theorem Objs.len {w : World} {v : Value} {L : List Ob} (h : Objs w v L) : ∀ ty W, (Builtin.len_ #[95] ty #[v]).run Tryz.prog W = .ok (.int .i64 (L.length : Int)) W := by
  obtain ⟨vs, h1, h2, h3⟩ := h; exact Rd.len h2 Tryz.underlying95
theorem Objs.len_le {w : World} {v : Value} {L : List Ob} (h : Objs w v L) : L.length ≤ 9223372036854775807 := by
  obtain ⟨vs, h1, h2, h3⟩ := h; exact Rd.len_le h2
theorem Slots.len {w : World} {v : Value} {L : List Sl} (h : Slots w v L) : ∀ ty W, (Builtin.len_ #[79] ty #[v]).run Tryz.prog W = .ok (.int .i64 (L.length : Int)) W := Rd.len h Tryz.underlying79
theorem Slots.len_le {w : World} {v : Value} {L : List Sl} (h : Slots w v L) : L.length ≤ 9223372036854775807 := Rd.len_le h
theorem Objs.at_ {w : World} {v : Value} {L : List Ob} (h : Objs w v L) {k : Nat} (hk : k < L.length) :
    ∃ b q x o, (∀ W, (Instr.indexAt 95 v (.int .i64 (k : Int))).run Tryz.prog W = .ok (.pointer (some ⟨b, q, none⟩)) W) ∧ w.cell? ⟨b, q, none⟩ = some (.int .i64 o.ty) ∧ w.cell? ⟨b, q + 1, none⟩ = some x ∧ Hid (L[k]? = some o) ∧ Hid (Words w x o.fs) ∧ b < w.heap.size := by
  obtain ⟨vs, h1, h2, h3⟩ := h
  have hv : vs[k]? = some vs[k] := List.getElem?_eq_getElem (by omega)
  have hl : L[k]? = some L[k] := List.getElem?_eq_getElem hk
  have hix := fun W => Rd.ixN h2 Tryz.underlying95 size_obj hk W
  obtain ⟨b, q, c, rfl, hb, hc, hcell⟩ := Rd.form h2 (by omega)
  obtain ⟨c0, c1⟩ := obC_get hl hv
  exact ⟨b, q + k * 2, vs[k], L[k], fun W => hix W, hcell _ _ c0, hcell _ _ c1, Lib.hid hl, Lib.hid (h3 k _ _ hv hl), hb⟩
theorem Words.oneCell {w : World} {x : Value} {l : List UInt64} (h : Words w x l) : x.oneCell' = true := by
  obtain ⟨A, c, rfl, _⟩ := h; rfl
theorem Typs.oneCell {w : World} {x : Value} {l : List (List UInt8)} (h : Typs w x l) : x.oneCell' = true := by
  obtain ⟨_, _, ⟨A, c, rfl, _⟩, _⟩ := h; rfl
theorem Objs.oneCell {w : World} {x : Value} {l : List Ob} (h : Objs w x l) : x.oneCell' = true := by
  obtain ⟨_, _, ⟨A, c, rfl, _⟩, _⟩ := h; rfl
theorem Slots.oneCell {w : World} {x : Value} {l : List Sl} (h : Slots w x l) : x.oneCell' = true := by
  obtain ⟨A, c, rfl, _⟩ := h; rfl
/-- A model: three slices. -/
structure Mod (w : World) (tv ov sv : Value) (m : Mo) : Prop where
  t : Typs w tv m.types
  o : Objs w ov m.objs
  s : Slots w sv m.slots
structure OwnM (w : World) (base E : Nat) (tv ov sv : Value) (m : Mo) : Prop where
  t : OwnT w base tv m.types
  o : OwnO w base ov m.objs
  s : OwnS w base E sv m.slots
theorem Mod.below {w w' : World} {tv ov sv : Value} {m : Mo} (h : Mod w tv ov sv m) (hb : Below w.heap.size w w') : Mod w' tv ov sv m := ⟨h.t.below hb, h.o.below hb, h.s.below hb⟩
theorem OwnM.below {w w' : World} {base E : Nat} {tv ov sv : Value} {m : Mo} (h : OwnM w base E tv ov sv m) (hb : Below w.heap.size w w') : OwnM w' base E tv ov sv m := ⟨h.t.below hb, h.o.below hb, h.s.below hb⟩
theorem OwnM.rd {w : World} {base E : Nat} {tv ov sv : Value} {m : Mo} (h : OwnM w base E tv ov sv m) : Mod w tv ov sv m := ⟨h.t.rd, h.o.rd, h.s.rd⟩
theorem OwnM.mono {w : World} {base base' E : Nat} {tv ov sv : Value} {m : Mo} (h : OwnM w base E tv ov sv m) (hb : base' ≤ base) : OwnM w base' E tv ov sv m := ⟨h.t.mono hb, h.o.mono hb, own_mono h.s hb⟩
theorem Mod.nil (w : World) : Mod w (.slice none 0 0) (.slice none 0 0) (.slice none 0 0) .nil := ⟨Typs.nil w, Objs.nil w, Slots.nil w⟩
end Go.Proofs.YtbfmdbeeiicabaaGreat
namespace Go.Proofs.YtbfmdbeeiicabaaGreat
open Go.RowKit L02 L13 L18 L20
end Go.Proofs.YtbfmdbeeiicabaaGreat
namespace Go.Proofs.YtbfmdbeeiicabaaGreat
open Go.RowKit L02 L13 L18 L20
end Go.Proofs.YtbfmdbeeiicabaaGreat
namespace Go.Proofs.YtbfmdbeeiicabaaGreat
open Go.RowKit L02 L13 L18 L20
end Go.Proofs.YtbfmdbeeiicabaaGreat
namespace Go.Proofs.YtbfmdbeeiicabaaGreat
open Go.RowKit L02 L13 L18 L20
end Go.Proofs.YtbfmdbeeiicabaaGreat
namespace Go.Proofs.YtbfmdbeeiicabaaGreat
open Go.RowKit L02 L13 L18 L20
end Go.Proofs.YtbfmdbeeiicabaaGreat
namespace Go.Proofs.YtbfmdbeeiicabaaGreat
open Go Go.RowKit
section
variable {P : Program} {ops : Array Oper} {md : Region.Mode}
def uponV (Post : World → Prop) (v : Value) : Result Next → Prop
  | .ok (.value u) w' => u = v ∧ Post w'
  | .ok .skip w' => v = undef ∧ Post w'
  | _ => False
def YieldsV (P : Program) (md : Region.Mode) (ops : Array Oper) (C : Array Bool → World → Prop) (i : Nat) (o : Oper) (v : Value) (a : Act) : Prop :=
  (Region.wanted o (yielded ops a.tmps) = true ∧ ∀ listed w, i ∈ Region.ready md ops listed → C listed w → uponV (C (listed.setIfInBounds i true)) v ((execOp a.eval o).run P w)) ∨
  (Region.wanted o (yielded ops a.tmps) = false ∧ v = undef ∧ ∀ listed w, i ∈ Region.ready md ops listed → C listed w → C (listed.setIfInBounds i true) w)
/-- number k0 yields the value x, whatever its world; the others as they do -/
def YieldsG (P : Program) (md : Region.Mode) (ops : Array Oper) (C : Array Bool → World → Prop) (k0 : Nat) (x : Value) (i : Nat) (o : Oper) (v : Value) (a : Act) : Prop :=
  (i = k0 ∧ v = x ∧ Region.wanted o (yielded ops a.tmps) = true) ∨ (i ≠ k0 ∧ YieldsV P md ops C i o v a)
theorem YieldsV.of_same {C : Array Bool → World → Prop} {i : Nat} {o : Oper} {v : Value} {a a' : Act} (hy : YieldsV P md ops C i o v a) (he : execOp a'.eval o = execOp a.eval o)
    (hw : Region.wanted o (yielded ops a'.tmps) = Region.wanted o (yielded ops a.tmps)) : YieldsV P md ops C i o v a' := by
  unfold YieldsV at *
  rw [he, hw]
  exact hy
/-- what is known of the operation k0: whatever it runs on, it runs alike at two acts -/
def G0 (k0 : Nat) (T : Act → Prop) (ops : Array Oper) : Prop := ∀ o, ops[k0]? = some o → ∀ a a' : Act, execOp a'.eval o = execOp a.eval o → T a → T a'
theorem YieldsG.of_same {C : Array Bool → World → Prop} {k0 : Nat} {x : Value} {i : Nat} {o : Oper} {v : Value} {a a' : Act} (hy : YieldsG P md ops C k0 x i o v a) (he : execOp a'.eval o = execOp a.eval o)
    (hw : Region.wanted o (yielded ops a'.tmps) = Region.wanted o (yielded ops a.tmps)) : YieldsG P md ops C k0 x i o v a' := by
  rcases hy with ⟨h1, h2, h3⟩ | ⟨h1, h2⟩
  · exact .inl ⟨h1, h2, by rw [hw]; exact h3⟩
  · exact .inr ⟨h1, h2.of_same he hw⟩
variable {C : Array Bool → World → Prop} {k0 : Nat} {x : Value} {T : Sem Next → Prop}
theorem uponV_val {Post Post' : World → Prop} {v v' : Value} {r : Result Next} (h : uponV Post v r) (h' : uponV Post' v' r) : v = v' := by
  cases r with
  | ok n w' =>
    cases n <;> simp only [uponV] at h h'
    · rw [← h.1, ← h'.1]
    · rw [h.1, h'.1]
  | halt y w' => simp only [uponV] at h
end
section
variable {P : Program} {ops : Array Oper} {rest : List Oper} {o : Oper} {a : Act} {Q : Act → Prop} {F : (Nat → Bool) → World → Prop} {js : List Nat} {k k0 : Nat} {md : Region.Mode} {x : Value} {T : Sem Next → Prop}
end
end Go.Proofs.YtbfmdbeeiicabaaGreat
namespace Go.Proofs.YtbfmdbeeiicabaaGreat
open Go.RowKit L02 L13 L18 L20
end Go.Proofs.YtbfmdbeeiicabaaGreat
namespace Go.Proofs.YtbfmdbeeiicabaaGreat
open Go.RowKit L02 L13 L18 L20
theorem OwnT.set {w : World} {B p i : Nat} {v u : Value} {L : List (List UInt8)} {t : TypeId} {cs : Array Value} (h : OwnT w B v L) (hg : Bx w p t cs) (h1 : 94 ≠ t) (h2 : 5 ≠ t) : OwnT (w.setCell ⟨p, i, none⟩ u) B v L := by
  obtain ⟨vs, a1, a2, a4⟩ := h; exact ⟨vs, a1, own_set a2 hg h1, fun i x l h5 h6 => own_set (a4 i x l h5 h6) hg h2⟩
theorem OwnO.set {w : World} {B p i : Nat} {v u : Value} {L : List Ob} {t : TypeId} {cs : Array Value} (h : OwnO w B v L) (hg : Bx w p t cs) (h1 : 152 ≠ t) (h2 : 40 ≠ t) : OwnO (w.setCell ⟨p, i, none⟩ u) B v L := by
  obtain ⟨vs, a1, a2, a4, a5⟩ := h; exact ⟨vs, a1, own_set a2 hg h1, fun i x l h5 h6 => own_set (a4 i x l h5 h6) hg h2, a5⟩
/-- one more object: xs the slices of fields, x the new one; the row was appended to. -/
theorem OwnO.snoc {w w' : World} {base n : Nat} {v v' x : Value} {L : List Ob} {o : Ob} {vs : List Value} (h1 : vs.length = L.length) (ho0 : w.ownsRow base 152 2 v L.length (obC L vs)) (ho : w'.ownsRow base 152 2 v' n (obC L vs ++ [i64 o.ty, x]))
    (h4 : ∀ (i : Nat) x l, vs[i]? = some x → L[i]? = some l → OwnW w base 40 x l.fs) (h5 : ∀ (i j : Nat) x y, i ≠ j → vs[i]? = some x → vs[j]? = some y → x.ownBlock = none ∨ x.ownBlock ≠ y.ownBlock)
    (hx : OwnW w base 40 x o.fs) (hap : ∀ (i : Nat) y, vs[i]? = some y → (x.ownBlock = none ∨ x.ownBlock ≠ y.ownBlock) ∧ (y.ownBlock = none ∨ y.ownBlock ≠ x.ownBlock)) (hg : w.grownBy w' v.ownBlock) : OwnO w' base v' (L ++ [o]) := by
  have hn : n = (L ++ [o]).length := by have := ho.1; rw [List.length_append, obC_len h1] at this; simp at this ⊢; omega
  subst hn
  have keep : ∀ y m, OwnW w base 40 y m → OwnW w' base 40 y m := fun y m hy => World.ownsRow.kept hy hg (own_unlike hy ho0 (by decide))
  have idx : ∀ i, i ≥ vs.length → ∀ y, (vs ++ [x])[i]? = some y → i = vs.length ∧ y = x := by
    intro i hi y hy
    rw [List.getElem?_append_right hi] at hy
    have h0 : i - vs.length = 0 := by
      rcases Nat.eq_zero_or_pos (i - vs.length) with h | h
      · exact h
      · rw [List.getElem?_eq_none (by simp; omega)] at hy; cases hy
    rw [h0] at hy
    simp at hy
    exact ⟨by omega, hy.symm⟩
  refine ⟨vs ++ [x], by simp [h1], by rw [obC_snoc h1]; exact ho, fun i y l hy hl => ?_, fun i j y z hij hy hz => ?_⟩
  · by_cases hi : i < vs.length
    · rw [List.getElem?_append_left hi] at hy
      rw [List.getElem?_append_left (by omega)] at hl
      exact keep _ _ (h4 i y l hy hl)
    · obtain ⟨rfl, rfl⟩ := idx i (by omega) y hy
      rw [List.getElem?_append_right (by omega), h1] at hl
      simp at hl; subst hl
      exact keep _ _ hx
  · by_cases hi : i < vs.length
    · rw [List.getElem?_append_left hi] at hy
      by_cases hj : j < vs.length
      · rw [List.getElem?_append_left hj] at hz
        exact h5 i j y z hij hy hz
      · obtain ⟨_, rfl⟩ := idx j (by omega) z hz
        exact (hap i y hy).2
    · obtain ⟨e1, rfl⟩ := idx i (by omega) y hy
      by_cases hj : j < vs.length
      · rw [List.getElem?_append_left hj] at hz
        exact (hap j z hz).1
      · obtain ⟨e2, rfl⟩ := idx j (by omega) z hz
        omega
theorem own_form' {w : World} {B e sz n : Nat} {v : Value} {xs : List Value} (h : w.ownsRow B e sz v n xs) : ∃ A c, v = .slice A n c := by
  obtain ⟨A, c, e, _⟩ := Rd.of_own h; exact ⟨A, c, e⟩
theorem OwnT.kept {w w' : World} {B B2 e n sz : Nat} {v a : Value} {L : List (List UInt8)} {xs : List Value} (h : OwnT w B v L) (ha : w.ownsRow B2 e sz a n xs) (hg : w.grownBy w' a.ownBlock) (h1 : 94 ≠ e) (h2 : 5 ≠ e) : OwnT w' B v L := by
  obtain ⟨vs, a1, a2, a4⟩ := h
  exact ⟨vs, a1, World.ownsRow.kept a2 hg (own_unlike a2 ha h1), fun i x l h5 h6 => World.ownsRow.kept (a4 i x l h5 h6) hg (own_unlike (a4 i x l h5 h6) ha h2)⟩
/-- what one more copied object leaves of memory -/
theorem copyO_mem {w wr W1 W3 : World} {B0 p a b n : Nat} {ot y v xt ys : Value} {vs : List Value} {L : List Ob} {o : Ob} {S : List Sl} {T : List (List UInt8)} {cs1 cs2 : Array Value}
    (z1 : vs.length = L.length) (z2 : wr.ownsRow B0 152 2 ot L.length (obC L vs)) (z4 : ∀ (i : Nat) x l, vs[i]? = some x → L[i]? = some l → OwnW wr B0 40 x l.fs)
    (z5 : ∀ (i j : Nat) x y, i ≠ j → vs[i]? = some x → vs[j]? = some y → x.ownBlock = none ∨ x.ownBlock ≠ y.ownBlock)
    (oy : OwnW W1 wr.heap.size 40 y o.fs) (b1 : Below wr.heap.size wr W1) (hown : W3.ownsRow B0 152 2 v n (obC L vs ++ [i64 o.ty, y])) (hgr : (W1.alloc (.cells #[i64 o.ty, y] 152)).grownBy W3 ot.ownBlock)
    (q1 : Bx wr a 97 cs1) (q2 : Bx wr b 97 cs2) (q3 : Bx wr p 97 #[xt, ot, ys]) (oT : OwnT wr B0 xt T) (oS : OwnS wr B0 83 ys S) (B : Below B0 w wr) (hB : B0 ≤ wr.heap.size) (ha : a ≠ p) (hb : b ≠ p) (hp : B0 ≤ p) {q : Nat} {tq : TypeId} {cs4 : Array Value} (q4 : Bx wr q tq cs4) (hq : ot.ownBlock = none ∨ ot.ownBlock ≠ some q) (hqp : q ≠ p) :
    (W3.cell? ⟨p, 1, none⟩ = some ot ∧ W3.frozen? ⟨p, 1, none⟩ = false) ∧ OwnO (W3.setCell ⟨p, 1, none⟩ v) B0 v (L ++ [o]) ∧ Bx (W3.setCell ⟨p, 1, none⟩ v) a 97 cs1 ∧ Bx (W3.setCell ⟨p, 1, none⟩ v) b 97 cs2 ∧ Bx (W3.setCell ⟨p, 1, none⟩ v) p 97 #[xt, v, ys] ∧
      OwnT (W3.setCell ⟨p, 1, none⟩ v) B0 xt T ∧ OwnS (W3.setCell ⟨p, 1, none⟩ v) B0 83 ys S ∧ Below B0 w (W3.setCell ⟨p, 1, none⟩ v) ∧ Bx W3 q tq cs4 ∧ Bx (W3.setCell ⟨p, 1, none⟩ v) q tq cs4 := by
  have b2 : Below wr.heap.size wr (W1.alloc (.cells #[i64 o.ty, y] 152)) := b1.alloc b1.size _
  have z2' := own_below z2 b2
  have nx := fun {g : Nat} {cs : Array Value} (hq : Bx (W1.alloc (.cells #[i64 o.ty, y] 152)) g 97 cs) => Bx.grown hq hgr (own_not_bx z2' hq (by decide))
  have r1 := nx (q1.below b2); have r2 := nx (q2.below b2); have r3 := nx (q3.below b2)
  have oS' : OwnS W3 B0 83 ys S := World.ownsRow.kept (own_below oS b2) hgr (own_unlike (own_below oS b2) z2' (by decide))
  have oT' : OwnT W3 B0 xt T := (oT.below b2).kept z2' hgr (by decide) (by decide)
  have oO : OwnO W3 B0 v (L ++ [o]) := OwnO.snoc z1 z2' hown (fun i x l h5 h6 => OwnW.below (z4 i x l h5 h6) b2) z5 (OwnW.below (own_mono oy hB) ((Below.refl _ W1).alloc (Nat.le_refl _) _))
    (fun i x hx => own_ne (z4 i x _ hx (List.getElem?_eq_getElem (by have := (List.getElem?_eq_some_iff.1 hx).1; omega))) oy (Nat.le_refl _)) hgr
  have B3 : Below B0 w W3 := (B.trans (b2.mono hB)).grown hgr (Nat.le_trans hB b2.size) (fun k hk => (z2'.lt k hk).1)
  refine ⟨⟨r3.cell 1, r3.free 1⟩, oO.set r3 (by decide) (by decide), r1.far (p := ⟨p, 1, none⟩) ha _, r2.far (p := ⟨p, 1, none⟩) hb _, ?_, oT'.set r3 (by decide) (by decide), own_set oS' r3 (by decide), B3.setCell (p := ⟨p, 1, none⟩) hp _, (q4.below b2).grown hgr hq, ((q4.below b2).grown hgr hq).far (p := ⟨p, 1, none⟩) hqp _⟩
  have := r3.set (i := 1) v
  simpa using this
/-- a literal of one object -/
theorem lit_obj {w : World} {ty : Int} {x : Value} : Rd (w.alloc (.cells #[i64 ty, x] 152)) 2 (.slice (some ⟨w.heap.size, 0, none⟩) 1 1) 1 [i64 ty, x] := lit_rdK (n := 1) (sz := 2) rfl (by omega)
theorem one_obj {ty : Int} {x : Value} (h : x.oneCell' = true) : ∀ u ∈ [i64 ty, x], u.oneCell' = true := by
  intro u hu
  rcases List.mem_cons.1 hu with rfl | hu
  · rfl
  · simp at hu; subst hu; exact h
theorem OwnM.set {w : World} {B p i : Nat} {tv ov sv u : Value} {m : Mo} {cs : Array Value} (h : OwnM w B 83 tv ov sv m) (hg : Bx w p 97 cs) : OwnM (w.setCell ⟨p, i, none⟩ u) B 83 tv ov sv m :=
  ⟨h.t.set hg (by decide) (by decide), h.o.set hg (by decide) (by decide), own_set h.s hg (by decide)⟩
/-- a model's three cells are stored elsewhere -/
theorem OwnM.set3 {w : World} {B p : Nat} {tv ov sv a b c : Value} {m : Mo} {cs : Array Value} (h : OwnM w B 83 tv ov sv m) (hg : Bx w p 97 cs) :
    OwnM (((w.setCell ⟨p, 0, none⟩ a).setCell ⟨p, 1, none⟩ b).setCell ⟨p, 2, none⟩ c) B 83 tv ov sv m :=
  ((h.set hg).set (hg.set a)).set ((hg.set a).set b)
end Go.Proofs.YtbfmdbeeiicabaaGreat
namespace Go.Proofs.YtbfmdbeeiicabaaGreat
open Go.RowKit L02 L13 L18 L20
theorem tabL_set (S : List Sl) (k : Nat) (s : Sl) (hk : k < S.length) : (((tabL S).set (k * 3) (.int .i64 s.gen)).set (k * 3 + 1) (.bool s.used)).set (k * 3 + 2) (.int .i64 s.at_) = tabL (S.set k s) := by
  apply List.ext_getElem?
  intro i
  by_cases hi : i < S.length * 3
  · obtain ⟨q, r, hr, rfl⟩ : ∃ q r, r < 3 ∧ i = q * 3 + r := ⟨i / 3, i % 3, Nat.mod_lt _ (by omega), by omega⟩
    have hq : q < S.length := by omega
    by_cases hqk : q = k
    · subst hqk
      have h1 := tabL_get (S.set q s) q s (by simp [hq]) r hr
      rw [h1]
      have hl : (tabL S).length = S.length * 3 := tabL_len S
      have : r = 0 ∨ r = 1 ∨ r = 2 := by omega
      rcases this with rfl | rfl | rfl
      · rw [List.getElem?_set_ne (by omega), List.getElem?_set_ne (by omega), Nat.add_zero, List.getElem?_set_self (by omega)]; rfl
      · rw [List.getElem?_set_ne (by omega), List.getElem?_set_self (by simp; omega)]; rfl
      · rw [List.getElem?_set_self (by simp; omega)]; rfl
    · have hs : S[q]? = some S[q] := List.getElem?_eq_getElem hq
      have h1 := tabL_get (S.set k s) q S[q] (by rw [List.getElem?_set_ne (Ne.symm hqk)]; exact hs) r hr
      have h2 := tabL_get S q S[q] hs r hr
      rw [h1, List.getElem?_set_ne (by omega), List.getElem?_set_ne (by omega), List.getElem?_set_ne (by omega), h2]
  · rw [List.getElem?_eq_none (by simp [tabL_len]; omega), List.getElem?_eq_none (by simp [tabL_len]; omega)]
theorem OwnS.form {w : World} {B E : Nat} {v : Value} {S : List Sl} (h : OwnS w B E v S) (hn : 0 < S.length) : ∃ g n c, v = .slice (some ⟨g, 0, none⟩) n c ∧ n = S.length := by
  obtain ⟨g, cap, cur, hv, _⟩ := own_form h hn
  exact ⟨g, _, cap, hv, rfl⟩
theorem OwnS.cells {w : World} {B E g n c k : Nat} {S : List Sl} {s : Sl} (h : OwnS w B E (.slice (some ⟨g, 0, none⟩) n c) S) (hs : S[k]? = some s) :
    (∀ W, (Instr.indexAt 79 (.slice (some ⟨g, 0, none⟩) n c) (.int .i64 (k : Int))).run Tryz.prog W = .ok (.pointer (some ⟨g, k * 3, none⟩)) W) ∧ w.cell? ⟨g, k * 3, none⟩ = some (.int .i64 s.gen) ∧ w.cell? ⟨g, k * 3 + 1, none⟩ = some (.bool s.used) ∧ w.cell? ⟨g, k * 3 + 2, none⟩ = some (.int .i64 s.at_) := by
  have hk : k < S.length := (List.getElem?_eq_some_iff.1 hs).1
  have t0 := Rd.cell (OwnS.rd h) (tabL_get S k s hs 0 (by omega))
  have t1 := Rd.cell (OwnS.rd h) (tabL_get S k s hs 1 (by omega))
  have t2 := Rd.cell (OwnS.rd h) (tabL_get S k s hs 2 (by omega))
  refine ⟨fun W => ?_, ?_, ?_, ?_⟩
  · have := Rd.ixN (P := Tryz.prog) (OwnS.rd h) Tryz.underlying79 size_slot hk W
    simpa [cellAt] using this
  · simpa [cellAt] using t0
  · simpa [cellAt] using t1
  · simpa [cellAt] using t2
/-- a model's own slots changed, all else kept -/
theorem OwnM.slots {w W : World} {B g n c : Nat} {tv ov : Value} {m : Mo} {S : List Sl} (h : OwnM w B 83 tv ov (.slice (some ⟨g, 0, none⟩) n c) m) (hg : w.grownBy W (some g)) (hS : OwnS W B 83 (.slice (some ⟨g, 0, none⟩) n c) S) :
    OwnM W B 83 tv ov (.slice (some ⟨g, 0, none⟩) n c) ⟨m.types, m.objs, S⟩ := by
  refine ⟨OwnT.kept h.t h.s hg (by decide) (by decide), ?_, hS⟩
  obtain ⟨vs, a1, a2, a4, a5⟩ := h.o
  exact ⟨vs, a1, World.ownsRow.kept a2 hg (own_unlike a2 h.s (by decide)), fun i x l h5 h6 => World.ownsRow.kept (a4 i x l h5 h6) hg (own_unlike (a4 i x l h5 h6) h.s (by decide)), a5⟩
/-- all old blocks but one are as they were -/
def Keep (w w' : World) (row : Option Nat) : Prop := w.heap.size ≤ w'.heap.size ∧ ∀ k, k < w.heap.size → some k ≠ row → w'.heap[k]? = w.heap[k]?
theorem Keep.grown {w w' w'' : World} {row : Option Nat} (h : Keep w w' row) (hg : w'.grownBy w'' row) : Keep w w'' row := ⟨Nat.le_trans h.1 hg.size, fun k hk hr => (hg.block k (Nat.lt_of_lt_of_le hk h.1) hr).trans (h.2 k hk hr)⟩
theorem Keep.setCell {w w' : World} {row : Option Nat} (h : Keep w w' row) {p : Addr} (hp : w.heap.size ≤ p.block) (u : Value) : Keep w (w'.setCell p u) row :=
  ⟨by simpa [World.setCell] using h.1, fun k hk hr => (Below.heap_setCell w' p u k (by omega)).trans (h.2 k hk hr)⟩
theorem Bx.keep {w w' : World} {g : Nat} {t : TypeId} {cs : Array Value} {row : Option Nat} (h : Bx w g t cs) (hk : Keep w w' row) (hne : row = none ∨ row ≠ some g) : Bx w' g t cs := by
  have hl := h.lt
  unfold Bx at *
  rw [hk.2 g hl (by rcases hne with rfl | h; · simp
                    · exact fun e => h e.symm)]
  exact h
end Go.Proofs.YtbfmdbeeiicabaaGreat
namespace Go.Proofs.YtbfmdbeeiicabaaGreat
open Go.RowKit L02 L13 L18 L20
/-- the number of a slot is stored -/
theorem OwnS.put1 {w : World} {B E g n c k : Nat} {S : List Sl} {s : Sl} (h : OwnS w B E (.slice (some ⟨g, 0, none⟩) n c) S) (hs : S[k]? = some s) (a : Int) :
    OwnS (w.setCell ⟨g, k * 3 + 2, none⟩ (.int .i64 a)) B E (.slice (some ⟨g, 0, none⟩) n c) (S.set k ⟨s.gen, s.used, a⟩) ∧
      w.grownBy (w.setCell ⟨g, k * 3 + 2, none⟩ (.int .i64 a)) (some g) ∧ B ≤ g ∧ g < w.heap.size ∧ ∀ j, w.frozen? ⟨g, j, none⟩ = false := by
  have hk : k < S.length := (List.getElem?_eq_some_iff.1 hs).1
  have hn : n = S.length := by
    obtain ⟨g', cap, cur, hv, _⟩ := own_form h (by omega)
    injection hv
  subst hn
  have h3 := World.ownsRow.stored h (k * 3 + 2) (.int .i64 a)
  have hl := h.lt g rfl
  have hsame : ∀ i : Nat, i < 3 → ∀ u, (slC s)[i]? = some u → (tabL S).set (k * 3 + i) u = tabL S := by
    intro i hi u hu
    have t0 := tabL_get S k s hs i hi
    rw [hu] at t0
    apply List.ext_getElem?
    intro j
    by_cases hj : j = k * 3 + i
    · subst hj
      rw [List.getElem?_set_self (List.getElem?_eq_some_iff.1 t0).1, t0]
    · rw [List.getElem?_set_ne (Ne.symm hj)]
  have h0 := hsame 0 (by omega) (.int .i64 s.gen) rfl
  have h1 := hsame 1 (by omega) (.bool s.used) rfl
  rw [Nat.add_zero] at h0
  refine ⟨?_, h3.2, hl.1, hl.2, fun j => h.frozenAt j⟩
  unfold OwnS
  rw [← tabL_set S k ⟨s.gen, s.used, a⟩ hk, List.length_set]
  show World.ownsRow _ _ _ _ _ _ ((((tabL S).set (k * 3) (.int .i64 s.gen)).set (k * 3 + 1) (.bool s.used)).set (k * 3 + 2) (.int .i64 a))
  rw [h0, h1]
  exact h3.1
theorem own_ne_bx {w : World} {B e sz n n' p g c : Nat} {xs : List Value} {t : TypeId} {cs : Array Value} (h : w.ownsRow B e sz (.slice (some ⟨g, 0, none⟩) n c) n' xs) (hg : Bx w p t cs) (hne : e ≠ t) : g ≠ p := by
  rintro rfl
  rcases own_not_bx h hg hne with h | h
  · cases h
  · exact h rfl
end Go.Proofs.YtbfmdbeeiicabaaGreat
namespace Go.Proofs.YtbfmdbeeiicabaaGreat
open Go.RowKit L01 L02 L05 L06 L07 L13 L14 L15 L16 L18 L19
set_option maxRecDepth 100000 in
theorem SlotsR_any (v : Value) (l : List UInt64) (hs : SizeOk l.length) (L : List Sl) (hL : L = all l) (w : World) (h : Words w v l) :
    Calls Tryz.prog 58 #[v] w fun e w' => ∃ x, e = .returned x ∧ OwnS w' w.heap.size 83 x L ∧ Below w.heap.size w w' := by
  have T := Lib.hid (ToldR_any v l hs L _ hL rfl w h)
  clear hL h hs
  go_enter Tryz.func58, Tryz.ntmps58
  go_wp2_with fail
  refine T.out.mono ?_
  rintro e w2 ⟨x, rfl, o, b⟩
  have HO := Lib.hid (And.intro o b)
  clear o b
  go_wp2
  go_ret
  exact ⟨_, rfl, HO.out⟩
/-- the heap is one free extent -/
def whole (L : List Hb) : Bool := match L with | [b] => decide (b.kind = 2) | _ => false
end Go.Proofs.YtbfmdbeeiicabaaGreat
namespace Go.Proofs.YtbfmdbeeiicabaaGreat
open Go Go.RowKit
section
variable {P : Program} {ops : Array Oper} {w : World}
theorem wpStill_of_quiet {Q : Act → Prop} : ∀ (l : List Oper) (a : Act), wpQuiet P ops (fun W => W = w) Q l a → wpStill P ops w Q l a
  | [], a, h => h
  | o :: l, a, h => by
    unfold wpQuiet at h
    unfold wpStill
    by_cases hw : Region.wanted o (yielded ops a.tmps) = true
    · rw [if_pos hw] at h ⊢
      obtain ⟨v, h1, h2⟩ := h
      have h3 := h1 w rfl
      have h4 := wpStill_of_quiet l _ h2
      unfold Oper.quietAt at h3
      unfold Oper.still
      cases hr : (execOp a.eval o).run P w with
      | ok n w' =>
        rw [hr] at h3
        cases n with
        | value u => obtain ⟨e1, e2⟩ := h3; subst e2; exact ⟨e1, h4⟩
        | skip => obtain ⟨e1, e2⟩ := h3; subst e2; exact ⟨e1, h4⟩
        | enter f args => obtain ⟨e1, e2⟩ := h3; exact ⟨e1, v, e2, h4⟩
        | _ => exact absurd h3 id
      | halt x w' => rw [hr] at h3; exact absurd h3 id
    · rw [if_neg hw] at h ⊢
      exact wpStill_of_quiet l _ h
theorem wp_region_qtail {id : Nat} {Q : Exit → Act → World → Prop} {a : Act} {l : List Oper} (n : Nat) (hm : P.follows .mixedOrders = true) (hB : Region.lexTailB .any l.toArray n = true)
    (h : wpQuiet P l.toArray (fun W => W = w.drew) (fun a' => wpList P l.toArray Q (l.drop n) a' w.drew) (l.take n) a) : (Code.region id l.toArray true).wp P Q a w :=
  wp_region_still_tail n hm hB (wpStill_of_quiet _ _ h)
end
end Go.Proofs.YtbfmdbeeiicabaaGreat
namespace Go.Proofs.YtbfmdbeeiicabaaGreat
open Go.RowKit L01 L02 L05 L06 L07 L13 L14 L15 L18 L19 L20
theorem idxI_rng {O : List Hb} {a : Int} (h : O.length ≤ 960) : -1 ≤ idxI O a ∧ idxI O a ≤ 960 := by
  unfold idxI
  cases h2 : idx O a with
  | none => exact ⟨Int.le_refl _, by decide⟩
  | some i =>
    obtain ⟨b, h3, _⟩ := idx_some h2
    have := (List.getElem?_eq_some_iff.1 h3).1
    show -1 ≤ (i : Int) ∧ (i : Int) ≤ 960
    exact ⟨by omega, by omega⟩
theorem refV_idxI {O : List Hb} {v : UInt64} (h : O.length ≤ 960) : ((refV O v).toNat : Int) = idxI O v.toNat + 1 := by
  unfold refV idxI
  cases h2 : idx O v.toNat with
  | none => simp
  | some i =>
    obtain ⟨b, h3, _⟩ := idx_some h2
    have := (List.getElem?_eq_some_iff.1 h3).1
    show ((UInt64.ofNat (i + 1)).toNat : Int) = (i : Int) + 1
    rw [UInt64.toNat_ofNat', Nat.mod_eq_of_lt (by omega)]; omega
theorem slOf_used {O : List Hb} {s : Sl} (h : s.used = true) : slOf O s = ⟨s.gen, true, idxI O s.at_⟩ := by
  unfold slOf; rw [if_pos h]; rfl
theorem slOf_not {O : List Hb} {s : Sl} (h : s.used = false) : slOf O s = s := by unfold slOf; rw [h]; rfl
theorem obFs_take {l : List UInt64} {T : List (List UInt8)} {O : List Hb} {b : Hb} {p : Nat} {k : UInt8} {v : UInt64} (hp : p < (kindsB T b).length) (hk : (kindsB T b).getD p 0 = k) (hv : fw l b p = v) : (obFs l T O b).take (p + 1) = (obFs l T O b).take p ++ [fldV O k v] := by
  rw [List.take_add_one, obFs_get hp, hk, hv]; rfl
theorem form_T {w : World} {B : Nat} {v : Value} {L : List (List UInt8)} (h : OwnT w B v L) : ∃ A n c, v = .slice A n c := by
  obtain ⟨vs, _, h2, _⟩ := h
  obtain ⟨A, c, e⟩ := own_form' h2
  exact ⟨A, _, c, e⟩
set_option maxRecDepth 100000 in
set_option maxHeartbeats 16000000 in
theorem SeenR_any (v : Value) (l : List UInt64) (rt : Rt l) (w : World) (h : Words w v l) :
    Calls Tryz.prog 40 #[v] w fun e w' => ∃ t' o' s', e = .returned (.agg #[t', o', s']) ∧ OwnM w' w.heap.size 83 t' o' s' (L19.seen l) ∧ Below w.heap.size w w' := by
  have B : Below w.heap.size w w := Below.refl _ _
  obtain ⟨T, hT⟩ : ∃ T, T = T19 l := ⟨_, rfl⟩
  obtain ⟨S, hS⟩ : ∃ S, S = slots l := ⟨_, rfl⟩
  obtain ⟨L, hL⟩ : ∃ L, L = allL l := ⟨_, rfl⟩
  obtain ⟨O, hO⟩ : ∃ O, O = O19 l := ⟨_, rfl⟩
  have hOL : O = objs L := by rw [hO, hL]; rfl
  have TT := Lib.hid (fun w h => TypesR19_any v l rt.sz T true (by rw [eq_comm, decide_eq_true_iff]; exact ⟨rt.tw, rt.ty⟩) (by rw [hT]; rfl) w h)
  have LT := Lib.hid (fun w h => ParsedR_any v l rt.sz L true hL (by rw [eq_comm, decide_eq_true_iff]; exact rt.al) w h)
  have OT := Lib.hid (fun x w (h : Blks w x L) => objsR_any x L O hOL w h (by rw [hL]; have := all_len rt.al; omega))
  have ST := Lib.hid (fun w h => SlotsR_any v l rt.sz S (by rw [hS, all, if_pos rt.sl]) w h)
  have hO9 : O.length ≤ 960 := by rw [hO]; exact objs_len rt.al
  have hOb : ∀ b ∈ O, 0 ≤ b.at_ ∧ b.at_ ≤ 1000000 := fun b hb => by
    rw [hO] at hb
    obtain ⟨a, h1, h2, h3, h4, _⟩ := objs_at rt.al hb
    have := rt.sz.2.1
    omega
  have IT := Lib.hid (fun (x : Value) (a : UInt64) (r : Int) (hr : r = idxI O a.toNat) w (h : Blks w x O) => idxR_any x O a r hr hOb (by omega) w h)
  have hS16 : S.length = 16 := by rw [hS]; exact slots_len' rt.sl
  obtain ⟨NO, hNO⟩ : ∃ N, N = O.length := ⟨_, rfl⟩
  have hNO2 : NO ≤ 960 := by omega
  have H := Lib.hid h; have HRT := Lib.hid rt; have HT := Lib.hid hT; have HS := Lib.hid hS; have HO := Lib.hid hO; have HNO := Lib.hid hNO; have HO9 := Lib.hid hO9; have HS16 := Lib.hid hS16
  clear h rt hT hS hL hO hOL hO9 hOb hS16 hNO
  go_enter Tryz.func40, Tryz.ntmps40
  go_upto_region 1 with (fail)
  refine wp_gen (fun Wv => Bx Wv (w.heap.size) (97) (#[.slice none 0 0, .slice none 0 0, .slice none 0 0]) ∧ Below w.heap.size w Wv) ⟨((Bx.at_ (by simp))), ((Below.refl _ w).alloc (by simp <;> omega) _)⟩ ?_
  rintro wa1 ⟨g3, b⟩
  replace B := B.trans (b.mono B.size); clear b
  have c_g3 := g3.cell; have f_g3 := g3.free; have a_g3 := fun o => (g3.alloc o).cell; have d_g3 := fun o o2 => ((g3.alloc o).alloc o2).cell; have e_g3 := fun o => (g3.alloc o).free
  have hz1 := B.size; have hp3 := g3.lt
  go_wp2_with fail
  refine (TT.out _ (H.out.below B)).mono ?_
  rintro e wa2 ⟨xt, rfl, ot, b⟩
  try clear c_g3 f_g3 a_g3 d_g3 e_g3
  replace g3 := g3.below b; have c_g3 := g3.cell; have f_g3 := g3.free; have a_g3 := fun o => (g3.alloc o).cell; have d_g3 := fun o o2 => ((g3.alloc o).alloc o2).cell; have e_g3 := fun o => (g3.alloc o).free; replace B := B.trans (b.mono B.size); clear b
  obtain ⟨tA, tn, tc, rfl⟩ := form_T ot
  have oT : OwnT wa2 w.heap.size (.slice tA tn tc) T := ot.mono hz1
  clear ot
  have hz2 := B.size
  go_wp2_with fail
  refine (LT.out _ (H.out.below B)).mono ?_
  rintro e wa3 ⟨xl, rfl, ol, b⟩
  try clear c_g3 f_g3 a_g3 d_g3 e_g3
  replace g3 := g3.below b; have c_g3 := g3.cell; have f_g3 := g3.free; have a_g3 := fun o => (g3.alloc o).cell; have d_g3 := fun o o2 => ((g3.alloc o).alloc o2).cell; have e_g3 := fun o => (g3.alloc o).free; replace oT := oT.below b; replace B := B.trans (b.mono B.size); clear b
  have hz3 := B.size
  go_wp2_with fail
  refine (OT.out _ _ ol.rd).mono ?_
  rintro e wa4 ⟨xo, rfl, ok, b⟩
  try clear c_g3 f_g3 a_g3 d_g3 e_g3
  replace g3 := g3.below b; have c_g3 := g3.cell; have f_g3 := g3.free; have a_g3 := fun o => (g3.alloc o).cell; have d_g3 := fun o o2 => ((g3.alloc o).alloc o2).cell; have e_g3 := fun o => (g3.alloc o).free; replace oT := oT.below b; replace ol := ol.below b; replace B := B.trans (b.mono B.size); clear b
  obtain ⟨oA, on, oc, rfl⟩ : ∃ A n c, xo = .slice A n c := row_form ok
  have oK : OwnK wa4 w.heap.size (.slice oA on oc) O := ok.mono (by omega)
  clear ok
  have hz4 := B.size
  clear ol
  go_wp2_with fail
  refine (ST.out _ (H.out.below B)).mono ?_
  rintro e wa5 ⟨xs, rfl, os, b⟩
  try clear c_g3 f_g3 a_g3 d_g3 e_g3
  replace g3 := g3.below b; have c_g3 := g3.cell; have f_g3 := g3.free; have a_g3 := fun o => (g3.alloc o).cell; have d_g3 := fun o o2 => ((g3.alloc o).alloc o2).cell; have e_g3 := fun o => (g3.alloc o).free; replace oT := oT.below b; replace oK := oK.below b; replace B := B.trans (b.mono B.size); clear b
  obtain ⟨gS, sc, rfl⟩ : ∃ g c, xs = .slice (some ⟨g, 0, none⟩) 16 c := by obtain ⟨g, n, c, e, e2⟩ := os.form (by rw [HS16.out]; omega); rw [e2, HS16.out] at e; exact ⟨g, c, e⟩
  have oS : OwnS wa5 w.heap.size 83 (.slice (some ⟨gS, 0, none⟩) 16 sc) S := own_mono os hz4
  clear os
  have hlt5 := g3.lt
  go_upto_region 5 with (fail)
  refine wp_gen (fun Wv => Bx Wv (wa5.heap.size) (97) (#[.slice tA tn tc, .slice none 0 0, .slice (some ⟨gS, 0, none⟩) 16 sc]) ∧ Below wa5.heap.size wa5 Wv) ⟨((Bx.at_ (by simp))), ((Below.refl _ wa5).alloc (by simp <;> omega) _)⟩ ?_
  rintro wa6 ⟨g5, b⟩
  try clear c_g3 f_g3 a_g3 d_g3 e_g3
  replace g3 := g3.below b; have c_g3 := g3.cell; have f_g3 := g3.free; have a_g3 := fun o => (g3.alloc o).cell; have d_g3 := fun o o2 => ((g3.alloc o).alloc o2).cell; have e_g3 := fun o => (g3.alloc o).free; replace oT := oT.below b; replace oK := oK.below b; replace oS := oS.below b; replace B := B.trans (b.mono B.size); clear b
  have c_g5 := g5.cell; have f_g5 := g5.free; have a_g5 := fun o => (g5.alloc o).cell; have d_g5 := fun o o2 => ((g5.alloc o).alloc o2).cell; have e_g5 := fun o => (g5.alloc o).free
  have hz5 := B.size
  generalize hpp : wa5.heap.size = p5 at *
  have hp5 : w.heap.size + 1 ≤ p5 := by omega
  have HZ := Lib.hid (show OwnT wa6 w.heap.size (.slice tA tn tc) T ∧ OwnO wa6 w.heap.size (.slice none 0 0) ((O.map (obOf l T O)).take 0) ∧ OwnS wa6 w.heap.size 83 (.slice (some ⟨gS, 0, none⟩) 16 sc) S ∧ OwnK wa6 w.heap.size (.slice oA on oc) O ∧ Bx wa6 w.heap.size 97 #[.slice none 0 0, .slice none 0 0, .slice none 0 0] ∧ Bx wa6 p5 97 #[.slice tA tn tc, .slice none 0 0, .slice (some ⟨gS, 0, none⟩) 16 sc] ∧ Below w.heap.size w wa6 from ⟨oT, OwnO.nil _ _, oS, oK, g3, g5, B⟩)
  clear oT oS oK g3 g5 B c_g3 f_g3 a_g3 d_g3 e_g3 c_g5 f_g5 a_g5 d_g5 e_g5 hpp hz1 hz2 hz3 hz4 hz5 hlt5 hp3
  have lo0 := HZ.out.2.2.2.1.rd.len
  rw [← HNO.out] at lo0
  go_wp2
  go_loopg [9] NO (fun g i wr => ∃ j : Nat, j ≤ NO ∧ g = NO - j ∧ i = .int .i64 j ∧ Hid (∃ ov2, OwnT wr w.heap.size (.slice tA tn tc) T ∧ OwnO wr w.heap.size ov2 ((O.map (obOf l T O)).take j) ∧ OwnS wr w.heap.size 83 (.slice (some ⟨gS, 0, none⟩) 16 sc) S ∧ OwnK wr w.heap.size (.slice oA on oc) O ∧ Bx wr w.heap.size 97 #[.slice none 0 0, .slice none 0 0, .slice none 0 0] ∧ Bx wr p5 97 #[.slice tA tn tc, ov2, .slice (some ⟨gS, 0, none⟩) 16 sc] ∧ Below w.heap.size w wr))
  case atStart => exact ⟨0, by omega, by omega, rfl, Lib.hid ⟨_, HZ.out⟩⟩
  case round =>
    clear HZ
    obtain ⟨j, hj, rfl, rfl, hh⟩ := hrel
    by_cases hlt : j < NO
    · obtain ⟨ov2, oT, oO, oS, oK, g3, g5, B⟩ := hh.out
      obtain ⟨wn, hwn⟩ : ∃ W, W = wr := ⟨_, rfl⟩
      subst hwn
      have hB0 := B.size
      obtain ⟨bb, oo, b0, ia, m0, _, _, m3, _, _, hb0, _⟩ := oK.rd.at_ (k := j) (by rw [← HNO.out]; exact hlt)
      have hbO : b0 ∈ O19 l := by rw [← HO.out]; exact List.mem_of_getElem? hb0.out
      have hty : Typed T b0 := by rw [HT.out]; exact HRT.out.good 8 (by omega) (by omega) b0 hbO
      obtain ⟨a, q, t, ha, hq, hTq, hkB, _, hle, _⟩ := in_kinds (in19_of HRT.out.al hbO) hty
      have hqT := (List.getElem?_eq_some_iff.1 hTq).1
      obtain ⟨nf, hnf⟩ : ∃ N, N = t.length := ⟨_, rfl⟩
      have hkE : kErr t = 0 := by rw [HT.out] at hTq; exact (T19_ok HRT.out.ty).2 t (List.mem_of_getElem? hTq)
      have hnf8 : nf ≤ 8 := by rw [hnf]; exact (kErr_ok hkE).1
      rw [← hnf] at hle
      have hl2 := HRT.out.sz.2.1
      have HB0 := Lib.hid hb0.out; have HTQ := Lib.hid hTq; have HKB := Lib.hid hkB; have HNF := Lib.hid hnf; have HLE := Lib.hid hle; have HQT := Lib.hid hqT
      have HA := Lib.hid (And.intro ha hq)
      rw [hq] at m3
      have ha5 : a ≤ 100000 := by omega
      clear hb0 hbO hty ha hq hTq hkB hle hqT hnf hkE hl2 hh
      have HG := Lib.hid (And.intro oT (And.intro oO (And.intro oS (And.intro oK (And.intro g3 (And.intro g5 B))))))
      clear oT oO oS oK g3 g5
      go_upto_region 9 with (fail)
      refine wp_gen (fun Wv => Bx Wv wn.heap.size 152 #[.int .i64 q, .slice none 0 0] ∧ Below wn.heap.size wn Wv) ⟨Bx.at_ (by simp), (Below.refl _ wn).alloc (by simp) _⟩ ?_
      rintro wa ⟨g8, b⟩
      have G8 := Lib.hid (And.intro g8 b)
      clear g8 b m0 m3 B ia
      go_wp2
      go_loopg [11] nf (fun g i wr2 => ∃ p : Nat, p ≤ nf ∧ g = nf - p ∧ i = .int .i64 p ∧ Hid (∃ y, OwnW wr2 wn.heap.size 40 y ((obFs l T O b0).take p) ∧ Bx wr2 wn.heap.size 152 #[.int .i64 q, y] ∧ Below wn.heap.size wn wr2))
      case atStart => exact ⟨0, by omega, by omega, rfl, Lib.hid ⟨_, OwnW.nil _ _ _, G8.out.1, G8.out.2⟩⟩
      case round =>
        clear G8
        obtain ⟨p, hp, rfl, rfl, hh2⟩ := hrel
        obtain ⟨y, oy, g8, b⟩ := hh2.out
        obtain ⟨yA, yn, yc, rfl⟩ : ∃ A n c, y = .slice A n c := by obtain ⟨A, c, e⟩ := own_form' oy; exact ⟨A, _, c, e⟩
        have B2 := HG.out.2.2.2.2.2.2.trans (b.mono hB0)
        have c_g8 := g8.cell
        obtain ⟨ad, yt, t2, iy, m3, ht2, hby⟩ := (HG.out.1.rd.below b).at_ HQT.out
        obtain rfl : t2 = t := by have := ht2.out; rw [HTQ.out] at this; injection this with e; exact e.symm
        have lx := Rd.len hby.out Tryz.underlying94
        rw [← HNF.out] at lx
        clear hh2 ht2
        by_cases hltp : p < nf
        · obtain ⟨bd, kk, ib, m4, hkk⟩ := hby.out.at_ (P := Tryz.prog) Tryz.underlying94 one_u8 (k := p) (by rw [← HNF.out]; exact hltp)
          obtain ⟨bb, oo, b1, ia, m0, _, _, _, _, _, hb1, _⟩ := (HG.out.2.2.2.1.rd.below b).at_ (k := j) (by rw [← HNO.out]; exact hlt)
          obtain rfl : b1 = b0 := by have := hb1.out; rw [HB0.out] at this; injection this with e; exact e.symm
          rw [HA.out.1] at m0
          obtain ⟨cd, v5, ic, m5, hv⟩ := (H.out.below B2).at_ (P := Tryz.prog) Tryz.underlying22 one_u64 (k := a + 2 + p) (by have := HLE.out; omega)
          have ic2 : ∀ W, (Instr.indexAt 22 v (.int .i64 ((a : Int) + 2 + (p : Int)))).run Tryz.prog W = .ok (.pointer (some cd)) W := ic
          have w1 : IntKind.i64.wrap ((a : Int) + 2) = (a : Int) + 2 := IntWalk.i64_in _ (by omega)
          have w2 : IntKind.i64.wrap ((a : Int) + 2 + (p : Int)) = (a : Int) + 2 + (p : Int) := IntWalk.i64_in _ (by omega)
          have hkk' : (kindsB T b1).getD p 0 = kk := by rw [HKB.out, List.getD_eq_getElem?_getD, hkk.out]; rfl
          have hfw : fw l b1 p = v5 := by unfold fw; rw [HA.out.1, Int.toNat_natCast, List.getD_eq_getElem?_getD, hv.out]; rfl
          have HTK := Lib.hid (obFs_take (O := O) (by rw [HKB.out, ← HNF.out]; exact hltp) hkk' hfw)
          have HLK := Lib.hid (show ((obFs l T O b1).take p).length = p by rw [List.length_take, obFs_len, HKB.out, ← HNF.out]; omega)
          have OY := Lib.hid oy; have BB := Lib.hid b; have G8 := Lib.hid g8
          clear hby hkk hv oy ic hb1 hkk' hfw
          by_cases h3 : kk.toNat = 3
          · have k3 : ((kk.toNat : Int) == 3) = true := by rw [beq_iff_eq]; omega
            obtain ⟨r, hr⟩ : ∃ r, r = idxI O v5.toNat := ⟨_, rfl⟩
            have hrr := idxI_rng (a := v5.toNat) HO9.out
            rw [← hr] at hrr
            have HV := Lib.hid (show Go.Proofs.YtbfmdbeeiicabaaGreat.u64 (fldV O kk v5) = .int .u64 (r + 1) by rw [Go.Proofs.YtbfmdbeeiicabaaGreat.u64, fldV_ref h3, refV_idxI HO9.out, hr])
            have z3 : IntKind.i64.wrap (r + 1) = r + 1 := IntWalk.i64_in _ (by omega)
            have z4 : IntKind.u64.wrap (r + 1) = r + 1 := by show (r + 1) % 18446744073709551616 = _; omega
            have II := Lib.hid (fun w h => IT.out (.slice oA on oc) v5 r hr w h)
            have KB := Lib.hid (HG.out.2.2.2.1.rd.below b)
            clear hr hrr h3 b
            go_wp2_with fail
            refine (II.out _ KB.out).mono ?_
            rintro e wz ⟨rfl, rfl⟩
            go_upto_region 15 with (fail)
            go_wp2_with (at_builtin; refine wpList_append (by rfl) rfl rfl rfl Tryz.underlying22 info_u64 rfl (by omega) (by exact own_below OY.out ((Below.refl _ wr).alloc (Nat.le_refl _) _)) (by exact lit_rd) (by simp [Value.oneCell']) (by rw [HLK.out]; omega) (by rw [HLK.out]; omega) (by exact BB.out.alloc BB.out.size _) (Nat.le_refl _) ?_; intro v1 w3 oo3 B3 g3'; obtain ⟨vA, vn1, vc, rfl⟩ : ∃ A n c, v1 = .slice A n c := by { obtain ⟨A, c, e⟩ := own_form' oo3; exact ⟨A, _, c, e⟩ }; have q8 := Bx.grown (G8.out.below ((Below.refl _ wr).alloc (Nat.le_refl _) (.cells #[.int .u64 (r + 1)] 40))) g3' (own_not_bx (own_below OY.out ((Below.refl _ wr).alloc (Nat.le_refl _) (.cells #[.int .u64 (r + 1)] 40))) (G8.out.below ((Below.refl _ wr).alloc (Nat.le_refl _) (.cells #[.int .u64 (r + 1)] 40))) (by decide)); have c8 := q8.cell; have f8 := q8.free)
            have HQ8 := Lib.hid (And.intro q8 (And.intro oo3 B3))
            clear q8 c8 f8 oo3 B3 g3' g8 c_g8 lx
            go_roundg (nf - (p + 1))
            case measure => omega
            case rel =>
              obtain ⟨q8, oo3, B3⟩ := HQ8.out
              refine ⟨p + 1, by omega, rfl, by go_num, Lib.hid ⟨_, own_set (OwnW.of (l := (obFs l T O b1).take (p + 1)) oo3 ?_) q8 (by decide), ?_, B3.setCell (p := ⟨wn.heap.size, 1, none⟩) (Nat.le_refl _) _⟩⟩
              · rw [HTK.out, List.map_append, ← HV.out]; rfl
              · have := q8.set (i := 1) (.slice vA vn1 vc)
                simpa using this
          · have k3 : ((kk.toNat : Int) == 3) = false := by rw [beq_eq_false_iff_ne]; omega
            obtain ⟨vn, hvn⟩ : ∃ q, q = v5.toNat := ⟨_, rfl⟩
            rw [← hvn] at m5
            have HV := Lib.hid (show Go.Proofs.YtbfmdbeeiicabaaGreat.u64 (fldV O kk v5) = .int .u64 vn by rw [fldV_not h3, Go.Proofs.YtbfmdbeeiicabaaGreat.u64, hvn])
            clear hvn h3 b
            go_upto_region 15 with (fail)
            go_wp2_with (at_builtin; refine wpList_append (by rfl) rfl rfl rfl Tryz.underlying22 info_u64 rfl (by omega) (by exact own_below OY.out ((Below.refl _ wr).alloc (Nat.le_refl _) _)) (by exact lit_rd) (by simp [Value.oneCell']) (by rw [HLK.out]; omega) (by rw [HLK.out]; omega) (by exact BB.out.alloc BB.out.size _) (Nat.le_refl _) ?_; intro v1 w3 oo3 B3 g3'; obtain ⟨vA, vn1, vc, rfl⟩ : ∃ A n c, v1 = .slice A n c := by { obtain ⟨A, c, e⟩ := own_form' oo3; exact ⟨A, _, c, e⟩ }; have q8 := Bx.grown (G8.out.below ((Below.refl _ wr).alloc (Nat.le_refl _) (.cells #[.int .u64 (vn : Int)] 40))) g3' (own_not_bx (own_below OY.out ((Below.refl _ wr).alloc (Nat.le_refl _) (.cells #[.int .u64 (vn : Int)] 40))) (G8.out.below ((Below.refl _ wr).alloc (Nat.le_refl _) (.cells #[.int .u64 (vn : Int)] 40))) (by decide)); have c8 := q8.cell; have f8 := q8.free)
            have HQ8 := Lib.hid (And.intro q8 (And.intro oo3 B3))
            clear q8 c8 f8 oo3 B3 g3' g8 c_g8 lx
            go_roundg (nf - (p + 1))
            case measure => omega
            case rel =>
              obtain ⟨q8, oo3, B3⟩ := HQ8.out
              refine ⟨p + 1, by omega, rfl, by go_num, Lib.hid ⟨_, own_set (OwnW.of (l := (obFs l T O b1).take (p + 1)) oo3 ?_) q8 (by decide), ?_, B3.setCell (p := ⟨wn.heap.size, 1, none⟩) (Nat.le_refl _) _⟩⟩
              · rw [HTK.out, List.map_append, ← HV.out]; rfl
              · have := q8.set (i := 1) (.slice vA vn1 vc)
                simpa using this
        · obtain rfl : p = nf := by omega
          have hfs : (obFs l T O b0).take p = obFs l T O b0 := by rw [List.take_of_length_le]; rw [obFs_len, HKB.out, ← HNF.out]; exact Nat.le_refl _
          rw [hfs] at oy
          obtain ⟨oT, oO, oS, oK, g3, g5, B⟩ := HG.out
          obtain ⟨oA2, on2, oc2, rfl⟩ : ∃ A n c, ov2 = .slice A n c := by obtain ⟨vs, z1, z2, _⟩ := oO; obtain ⟨A, c, e⟩ := own_form' z2; exact ⟨A, _, c, e⟩
          obtain ⟨vs, z1, z2, z4, z5⟩ := oO
          have c5 := (g5.below b).cell
          have ba := b.alloc b.size (.cells #[.int .i64 (q : Int), .slice yA yn yc] 152)
          have hoy : OwnW wr wn.heap.size 40 (.slice yA yn yc) (obOf l T O b0).fs := oy
          have hqq : (obOf l T O b0).ty = (q : Int) := HA.out.2
          have HAA := Lib.hid (And.intro z1 (And.intro z2 (And.intro z4 (And.intro z5 (And.intro oT (And.intro oS (And.intro g3 (And.intro g5 (And.intro B (And.intro hoy (And.intro b (And.intro ba (And.intro g8 oK)))))))))))))
          have hL1 : ((O.map (obOf l T O)).take j).length ≤ 960 := by rw [List.length_take, List.length_map]; have := HO9.out; omega
          clear z1 z4 z5 oT oS oK g3 g5 B oy b g8 hoy
          have Z2 := Lib.hid (own_below z2 ba); have BA := Lib.hid ba
          clear z2 ba hfs
          have hqqH := Lib.hid hqq; have HL1 := Lib.hid hL1
          clear hqq hL1
          go_upto_region 16 with (fail)
          clear m3 iy lx hby
          go_wp2_with (at_builtin; refine wpList_append (by rfl) rfl rfl rfl Tryz.underlying95 info_obj rfl (by omega) (by exact Z2.out) (by exact lit_obj) (by exact one_obj rfl) (by have := HL1.out; omega) (by have := HL1.out; omega) (by exact HAA.out.2.2.2.2.2.2.2.2.1.trans (BA.out.mono hB0)) (by omega) ?_; intro v1 w3 oo3 B3 g3'; obtain ⟨vA, vn1, vc, rfl⟩ : ∃ A n c, v1 = .slice A n c := by { obtain ⟨A, c, e⟩ := own_form' oo3; exact ⟨A, _, c, e⟩ }; have MM := Lib.hid (copyO_mem (o := obOf l T O b0) (a := w.heap.size) (b := w.heap.size) (p := p5) HAA.out.1 HAA.out.2.1 HAA.out.2.2.1 HAA.out.2.2.2.1 HAA.out.2.2.2.2.2.2.2.2.2.1 HAA.out.2.2.2.2.2.2.2.2.2.2.1 (by rw [hqqH.out]; exact oo3) (by rw [hqqH.out]; exact g3') HAA.out.2.2.2.2.2.2.1 HAA.out.2.2.2.2.2.2.1 HAA.out.2.2.2.2.2.2.2.1 HAA.out.2.2.2.2.1 HAA.out.2.2.2.2.2.1 HAA.out.2.2.2.2.2.2.2.2.1 hB0 (by omega) (by omega) (by omega) HAA.out.2.2.2.2.2.2.1 (own_not_bx HAA.out.2.1 HAA.out.2.2.2.2.2.2.1 (by decide)) (by omega)); have KK := Lib.hid (own_set (World.ownsRow.kept (own_below HAA.out.2.2.2.2.2.2.2.2.2.2.2.2.2 BA.out) g3' (own_unlike (own_below HAA.out.2.2.2.2.2.2.2.2.2.2.2.2.2 BA.out) Z2.out (by decide))) (i := 1) (u := .slice vA vn1 vc) (Bx.grown (HAA.out.2.2.2.2.2.2.2.1.below BA.out) g3' (own_not_bx Z2.out (HAA.out.2.2.2.2.2.2.2.1.below BA.out) (by decide))) (by decide)); have hc := MM.out.1.1; have hf := MM.out.1.2; clear oo3 B3 g3')
          have HM := Lib.hid MM.out.2
          clear MM hc hf c5 c_g8 HAA Z2 BA
          go_roundg (NO - (j + 1))
          case measure => omega
          case rel =>
            obtain ⟨k1, k2, k3, k4, k5, k6, k7, _⟩ := HM.out
            refine ⟨j + 1, by omega, rfl, by go_num, Lib.hid ⟨_, k5, ?_, k6, KK.out, k2, k4, k7⟩⟩
            rw [List.take_add_one, List.getElem?_map, HB0.out]; exact k1
    · obtain rfl : j = NO := by omega
      obtain ⟨ov2, oT, oO, oS, oK, g3, g5, B⟩ := hh.out
      obtain ⟨oA2, on2, oc2, rfl⟩ : ∃ A n c, ov2 = .slice A n c := by obtain ⟨vs, z1, z2, _⟩ := oO; obtain ⟨A, c, e⟩ := own_form' z2; exact ⟨A, _, c, e⟩
      rw [List.take_of_length_le (by rw [List.length_map, HNO.out]; exact Nat.le_refl _)] at oO
      have HM := Lib.hid (And.intro (OwnM.mk (m := ⟨T, O.map (obOf l T O), S⟩) oT oO oS) (And.intro oK (And.intro g3 (And.intro g5 B))))
      clear hh oT oO oS oK g3 g5 B
      go_wp2
      go_loopg [13] 16 (fun g i wr => ∃ j2 : Nat, j2 ≤ 16 ∧ g = 16 - j2 ∧ i = .int .i64 j2 ∧ Hid (OwnM wr w.heap.size 83 (.slice tA tn tc) (.slice oA2 on2 oc2) (.slice (some ⟨gS, 0, none⟩) 16 sc) ⟨T, O.map (obOf l T O), mapT (slOf O) S j2⟩ ∧ OwnK wr w.heap.size (.slice oA on oc) O ∧ Bx wr w.heap.size 97 #[.slice none 0 0, .slice none 0 0, .slice none 0 0] ∧ Bx wr p5 97 #[.slice tA tn tc, .slice oA2 on2 oc2, .slice (some ⟨gS, 0, none⟩) 16 sc] ∧ Below w.heap.size w wr))
      case atStart => exact ⟨0, by omega, by omega, rfl, Lib.hid (by rw [mapT_zero]; exact HM.out)⟩
      case round =>
        clear HM
        obtain ⟨j2, hj2, rfl, rfl, hh⟩ := hrel
        obtain ⟨om, oK, g3, g5, B⟩ := hh.out
        have c_g5 := g5.cell
        have hgS := om.s.lt gS rfl
        by_cases hlt2 : j2 < 16
        · obtain ⟨s, hs⟩ : ∃ s, S[j2]? = some s := ⟨_, List.getElem?_eq_getElem (by rw [HS16.out]; exact hlt2)⟩
          have hs2 := mapT_get (f := slOf O) hs
          have hso := seen_slot HRT.out (s := s) (by rw [← HS.out]; exact List.mem_of_getElem? hs)
          obtain ⟨ix, q0, q1, q2⟩ := OwnS.cells om.s hs2
          cases hu : s.used
          · rw [hu] at q1
            have HE := Lib.hid (mapT_same (f := slOf O) hs (slOf_not hu))
            clear hs hs2 hso q0 q2 om g3 oK B
            go_wp2
            go_roundg (16 - (j2 + 1))
            case measure => omega
            case rel =>
              refine ⟨j2 + 1, by omega, rfl, by go_num, ?_⟩
              rw [HE.out]; exact hh
          · rw [hu] at q1
            obtain ⟨a1, a2, a3⟩ := hso.2.2.2 hu
            obtain ⟨x, hx⟩ : ∃ x : UInt64, s.at_ = (x.toNat : Int) := ⟨UInt64.ofNat s.at_.toNat, by
              rw [UInt64.toNat_ofNat_of_lt' (by show s.at_.toNat < 18446744073709551616; omega)]; omega⟩
            rw [hx] at q2 a2 a3
            have hwx : IntKind.u64.wrap (x.toNat : Int) = (x.toNat : Int) := by show (x.toNat : Int) % 18446744073709551616 = _; omega
            obtain ⟨r, hr⟩ : ∃ r, r = idxI O x.toNat := ⟨_, rfl⟩
            have II := Lib.hid (fun w h => IT.out (.slice oA on oc) x r hr w h)
            have HE := Lib.hid (show (mapT (slOf O) S j2).set j2 ⟨s.gen, s.used, r⟩ = mapT (slOf O) S (j2 + 1) by
              rw [← mapT_set hs, slOf_used hu, hu, hx, ← hr])
            have HP := Lib.hid (OwnS.put1 om.s hs2 r)
            have fz := HP.out.2.2.2.2
            have hM3 := OwnM.slots om HP.out.2.1 HP.out.1
            have nx := fun {q : Nat} {tq : TypeId} {cs : Array Value} (hb : Bx wr q tq cs) (hne : gS ≠ q) => hb.grown HP.out.2.1 (.inr (fun e => hne (by injection e)))
            have n3 : gS ≠ w.heap.size := own_ne_bx om.s g3 (by decide)
            have n5 : gS ≠ p5 := own_ne_bx om.s g5 (by decide)
            have r3 := nx g3 n3; have r4 := nx g5 n5
            have hb3 := B.grown HP.out.2.1 B.size (fun k hk => by injection hk with hk; rw [← hk]; exact HP.out.2.2.1)
            have oK3 := World.ownsRow.kept oK HP.out.2.1 (own_unlike oK om.s (by decide))
            have HH := Lib.hid (And.intro hM3 (And.intro oK3 (And.intro r3 (And.intro r4 hb3))))
            have KB := Lib.hid oK.rd
            clear nx r3 r4 hb3 hM3 oK3 hh hr
            go_upto_region 21 with (fail)
            refine wp_region_qtail 14 (by kernel_rfl) (by kernel_rfl) ?_
            simp only [List.take_succ_cons, List.take_zero, List.drop_succ_cons, List.drop_zero]
            iterate 14 (go_big_quiet_step (exact (show Calls Tryz.prog 34 #[.slice oA on oc, .int .u64 x.toNat] wr.drew (fun e w'' => e = .returned (.int .i64 r) ∧ w'' = wr.drew) from (II.out wr.drew KB.out).mono (fun _ _ hx => ⟨hx.1, hx.2.symm⟩)) _))
            refine wpQuiet_nil ?_
            change wpList _ _ _ _ _ wr.drew
            have q2' : wr.drew.cell? ⟨gS, j2 * 3 + 2, none⟩ = some (.int .i64 x.toNat) := q2
            have fz' : ∀ j, wr.drew.frozen? ⟨gS, j, none⟩ = false := fz
            clear om g3 g5 oK c_g5 B ix q0 q1 q2 fz hs hs2 hso a1 a2 a3
            go_wp2
            clear q2' fz'
            go_roundg (16 - (j2 + 1))
            case measure => omega
            case rel =>
              refine ⟨j2 + 1, by omega, rfl, by go_num, Lib.hid ?_⟩
              rw [← HE.out]
              exact ⟨⟨HH.out.1.t, HH.out.1.o, HH.out.1.s⟩, HH.out.2.1, HH.out.2.2.1, HH.out.2.2.2.1, HH.out.2.2.2.2.drew⟩
        · obtain rfl : j2 = 16 := by omega
          rw [mapT_done (by rw [HS16.out]; exact Nat.le_refl _)] at om
          have HOM := Lib.hid om
          clear hh om oK
          have c_g3 := g3.cell
          have f_g3 := g3.free
          go_wp2
          refine bodyPost_ret (v := .agg #[.slice tA tn tc, .slice oA2 on2 oc2, .slice (some ⟨gS, 0, none⟩) 16 sc]) (by simp [results, Tryz.results40, go_sem, c_g3, f_g3]) rfl ?_
          refine ⟨_, _, _, rfl, ?_, ?_⟩
          · have := OwnM.set3 HOM.out g3 (a := .slice tA tn tc) (b := .slice oA2 on2 oc2) (c := .slice (some ⟨gS, 0, none⟩) 16 sc)
            rw [show L19.seen l = ⟨T, O.map (obOf l T O), S.map (slOf O)⟩ by unfold L19.seen; rw [HT.out, HO.out, HS.out]]
            exact this
          · exact ((B.setCell (p := ⟨w.heap.size, 0, none⟩) (by simp) _).setCell (p := ⟨w.heap.size, 1, none⟩) (by simp) _).setCell (p := ⟨w.heap.size, 2, none⟩) (by simp) _
end Go.Proofs.YtbfmdbeeiicabaaGreat
namespace Go.Proofs.YtbfmdbeeiicabaaGreat
open Go.RowKit L01 L02 L18
theorem next_get : ∀ {L : List Sl} {j k : Nat}, nextFrom L j = some k → j ≤ k ∧ ∃ s, L[k - j]? = some s ∧ s.used = false ∧ s.gen ≠ 2147483647
  | [], _, _, h => by cases h
  | s :: L, j, k, h => by
    rw [nextFrom] at h
    split at h
    · rename_i h2
      injection h with h
      subst h
      exact ⟨Nat.le_refl _, s, by simp, h2⟩
    · obtain ⟨h1, t, h2, h3⟩ := next_get h
      exact ⟨by omega, t, by rw [show k - j = (k - (j + 1)) + 1 by omega, List.getElem?_cons_succ]; exact h2, h3⟩
theorem gen_le {l : List UInt64} (h0 : openErr l = 0) : ∀ s ∈ slots l, s.gen ≤ 2147483647 := fun s hs => (right_of h0 s hs).2.1
set_option maxRecDepth 100000 in
set_option maxHeartbeats 1000000 in
theorem NewR18_any (v : Value) (l : List UInt64) (a sl g ea : Int) (ev : UInt64) (r : Int) (h1 : sl = newSlot l a) (h2 : g = newGen l a) (h3 : ea = newAt l a) (h4 : ev = newVal l a) (h5 : r = L18.newErr l a) (w : World) (h : Words w v l) :
    Calls Tryz.prog 48 #[v, .int .i64 a] w fun e w' => e = .returned (.tuple #[.agg #[.int .i64 sl, .int .i64 g], .agg #[.int .i64 ea, .int .u64 ev.toNat], .int .i64 r]) ∧ Below w.heap.size w w' := by
  have B : Below w.heap.size w w := Below.refl _ _
  obtain ⟨L, hL⟩ : ∃ L, L = all l := ⟨_, rfl⟩
  obtain ⟨oe, hoe⟩ : ∃ oe, oe = openErr l := ⟨_, rfl⟩
  have AT := fun w h => AllR_any v l L oe hL hoe w h
  have HAT := Lib.hid AT; have H := Lib.hid h; clear AT h
  by_cases h0 : openErr l = 0
  · by_cases ha : 128 ≤ a ∧ a < 2048
    · have hLs : L = slots l := hL.trans (all_ok h0)
      obtain ⟨nx, hnx⟩ : ∃ nx, nx = nextI L := ⟨_, rfl⟩
      have NT := fun v w h => NextR_any v L nx hnx w h (by rw [hLs]; exact gen_le h0)
      have HNT := Lib.hid NT
      obtain ⟨a1, a2⟩ := ha
      cases hn : next (slots l) with
      | none =>
        have herr : L18.newErr l a = 23 := by rw [L18.newErr, if_pos h0, if_pos ⟨a1, a2⟩, if_pos hn]
        have e1 : sl = 0 := h1.trans (if_neg (by rw [herr]; omega))
        have e2 : g = 0 := h2.trans (if_neg (by rw [herr]; omega))
        have e3 : ea = 0 := h3.trans (if_neg (by rw [herr]; omega))
        have e4 : ev = 0 := h4.trans (if_neg (by rw [herr]; omega))
        rw [herr] at h5
        have hx : nx = -1 := by rw [hnx, nextI, hLs, hn]
        rw [h0] at hoe
        clear h1 h2 h3 h4 herr NT hn hnx hLs hL h0
        subst e1 e2 e3 e4 h5 hx hoe
        go_enter Tryz.func48, Tryz.ntmps48
        go_upto_region 1 with (fail)
        refine wp_gen (fun Wv => Bx Wv (w.heap.size) (24) (#[.int .i64 0, .int .i64 0]) ∧ Bx Wv (w.heap.size + 1) (61) (#[.int .i64 0, .int .u64 0]) ∧ Below w.heap.size w Wv) ⟨(((Bx.at_ (by simp)).alloc _)), ((Bx.at_ (by simp))), (((Below.refl _ w).alloc (by simp <;> omega) _).alloc (by simp <;> omega) _)⟩ ?_
        rintro w' ⟨g4, g5, b⟩
        replace B := B.trans (b.mono B.size); clear b
        have c_g4 := g4.cell; have f_g4 := g4.free; have a_g4 := fun o => (g4.alloc o).cell; have d_g4 := fun o o2 => ((g4.alloc o).alloc o2).cell; have e_g4 := fun o => (g4.alloc o).free
        have c_g5 := g5.cell; have f_g5 := g5.free; have a_g5 := fun o => (g5.alloc o).cell; have d_g5 := fun o o2 => ((g5.alloc o).alloc o2).cell; have e_g5 := fun o => (g5.alloc o).free
        go_wp2_with fail
        refine (HAT.out _ (H.out.below B)).mono ?_
        rintro e w' ⟨xv, E, rfl, r1, b⟩
        try clear c_g4 f_g4 a_g4 d_g4 e_g4
        replace g4 := g4.below b; have c_g4 := g4.cell; have f_g4 := g4.free; have a_g4 := fun o => (g4.alloc o).cell; have d_g4 := fun o o2 => ((g4.alloc o).alloc o2).cell; have e_g4 := fun o => (g4.alloc o).free; try clear c_g5 f_g5 a_g5 d_g5 e_g5
        replace g5 := g5.below b; have c_g5 := g5.cell; have f_g5 := g5.free; have a_g5 := fun o => (g5.alloc o).cell; have d_g5 := fun o o2 => ((g5.alloc o).alloc o2).cell; have e_g5 := fun o => (g5.alloc o).free; replace B := B.trans (b.mono B.size); clear b
        go_wp2_with fail
        refine (HNT.out _ _ r1.rd).mono ?_
        rintro e w2 ⟨rfl, rfl⟩
        go_wp2
        refine bodyPost_ret (v := .tuple #[.agg #[.int .i64 0, .int .i64 0], .agg #[.int .i64 0, .int .u64 0], .int .i64 23]) (by simp [results, Tryz.results48, go_sem, c_g4, f_g4, a_g4, e_g4, c_g5, f_g5, a_g5, e_g5]) rfl ?_
        refine ⟨rfl, ?_⟩
        (repeat (first | refine Below.setCell ?_ (by first | exact Nat.le_refl _ | (simp <;> omega)) _ | refine Below.alloc ?_ (by first | exact B.size | (have := B.size; simp <;> omega)) _)); exact B
      | some k =>
        have herr : L18.newErr l a = 0 := by rw [L18.newErr, if_pos h0, if_pos ⟨a1, a2⟩, if_neg (by rw [hn]; simp)]
        obtain ⟨_, s, p3, p4, p5⟩ := next_get hn
        rw [Nat.sub_zero, ← hLs] at p3
        have hR := right_of h0 s (by rw [← hLs]; exact List.mem_of_getElem? p3)
        have q0 := hR.1; have q1 := hR.2.1
        have e1 : sl = k := by rw [h1, newSlot, if_pos herr, hn]; rfl
        have e2 : g = s.gen + 1 := by rw [h2, newGen, if_pos herr, hn, ← hLs]; simp [List.getD_eq_getElem?_getD, p3]
        have e3 : ea = 112 + k := by rw [h3, newAt, if_pos herr, hn]; rfl
        have e4 : ev = pk ⟨s.gen + 1, true, a⟩ := by rw [h4, newVal, if_pos herr, ← h2, e2]
        have hR2 : Right ⟨s.gen + 1, true, a⟩ := ⟨by show 0 ≤ s.gen + 1; omega, by show s.gen + 1 ≤ 2147483647; omega, by simp, fun _ => ⟨by show 0 < s.gen + 1; omega, a1, a2⟩⟩
        have OT := fun w => OfR_any ⟨s.gen + 1, true, a⟩ ev e4 hR2 w
        dsimp only at OT
        have HOT := Lib.hid OT
        have hx : nx = k := by rw [hnx, nextI, hLs, hn]
        have hkL : k < L.length := (List.getElem?_eq_some_iff.1 p3).1
        have hk16 : k < 16 := by rw [hLs, slots16 h0] at hkL; exact hkL
        have HP := Lib.hid p3
        have hge : s.gen < 2147483647 := by omega
        rw [h0] at hoe; rw [herr] at h5
        clear h1 h2 h3 h4 herr NT OT hn hnx hLs hL h0 hR hR2 e4 p3 p5 p4
        subst e1 e2 e3 hx hoe h5
        go_enter Tryz.func48, Tryz.ntmps48
        go_upto_region 1 with (fail)
        refine wp_gen (fun Wv => Bx Wv (w.heap.size) (24) (#[.int .i64 0, .int .i64 0]) ∧ Bx Wv (w.heap.size + 1) (61) (#[.int .i64 0, .int .u64 0]) ∧ Below w.heap.size w Wv) ⟨(((Bx.at_ (by simp)).alloc _)), ((Bx.at_ (by simp))), (((Below.refl _ w).alloc (by simp <;> omega) _).alloc (by simp <;> omega) _)⟩ ?_
        rintro w' ⟨g4, g5, b⟩
        replace B := B.trans (b.mono B.size); clear b
        have c_g4 := g4.cell; have f_g4 := g4.free; have a_g4 := fun o => (g4.alloc o).cell; have d_g4 := fun o o2 => ((g4.alloc o).alloc o2).cell; have e_g4 := fun o => (g4.alloc o).free
        have c_g5 := g5.cell; have f_g5 := g5.free; have a_g5 := fun o => (g5.alloc o).cell; have d_g5 := fun o o2 => ((g5.alloc o).alloc o2).cell; have e_g5 := fun o => (g5.alloc o).free
        go_wp2_with fail
        refine (HAT.out _ (H.out.below B)).mono ?_
        rintro e w' ⟨xv, E, rfl, r1, b⟩
        try clear c_g4 f_g4 a_g4 d_g4 e_g4
        replace g4 := g4.below b; have c_g4 := g4.cell; have f_g4 := g4.free; have a_g4 := fun o => (g4.alloc o).cell; have d_g4 := fun o o2 => ((g4.alloc o).alloc o2).cell; have e_g4 := fun o => (g4.alloc o).free; try clear c_g5 f_g5 a_g5 d_g5 e_g5
        replace g5 := g5.below b; have c_g5 := g5.cell; have f_g5 := g5.free; have a_g5 := fun o => (g5.alloc o).cell; have d_g5 := fun o o2 => ((g5.alloc o).alloc o2).cell; have e_g5 := fun o => (g5.alloc o).free; replace B := B.trans (b.mono B.size); clear b
        go_wp2_with fail
        refine (HNT.out _ _ r1.rd).mono ?_
        rintro e w2 ⟨rfl, rfl⟩
        obtain ⟨b, o, t, ia, c0, c1, c2, ht⟩ := r1.rd.at_ (P := Tryz.prog) Tryz.underlying79 size_slot (k := k) hkL
        have hts : t = s := by have h1 := ht.out; rw [HP.out] at h1; injection h1 with h1; exact h1.symm
        subst hts
        clear ht
        have n0 : (0 : Int) ≤ (k : Int) := by omega
        go_wp2_with fail
        refine (HOT.out _).mono ?_
        rintro e w2 ⟨rfl, b⟩
        clear c0 c1 c2
        replace g4 := g4.below b; replace g5 := g5.below b; replace B := B.trans (b.mono B.size)
        clear c_g4 f_g4 a_g4 d_g4 e_g4 c_g5 f_g5 a_g5 d_g5 e_g5
        have k4 := g4.cell; have l4 := g4.free; have k5 := g5.cell; have l5 := g5.free
        go_wp2
        refine bodyPost_ret (v := .tuple #[.agg #[.int .i64 k, .int .i64 (t.gen + 1)], .agg #[.int .i64 (112 + k), .int .u64 ev.toNat], .int .i64 0]) (by simp [results, Tryz.results48, go_sem, k4, l4, k5, l5]) rfl ⟨rfl, ?_⟩
        (repeat (first | refine Below.setCell ?_ (by first | exact Nat.le_refl _ | (simp <;> omega)) _ | refine Below.alloc ?_ (by first | exact B.size | (have := B.size; simp <;> omega)) _)); exact B
    · have herr : L18.newErr l a = 2 := by rw [L18.newErr, if_pos h0, if_neg ha]
      have e1 : sl = 0 := h1.trans (if_neg (by rw [herr]; omega))
      have e2 : g = 0 := h2.trans (if_neg (by rw [herr]; omega))
      have e3 : ea = 0 := h3.trans (if_neg (by rw [herr]; omega))
      have e4 : ev = 0 := h4.trans (if_neg (by rw [herr]; omega))
      rw [herr] at h5; rw [h0] at hoe
      clear h1 h2 h3 h4 herr hL h0
      subst e1 e2 e3 e4 h5 hoe
      have hcase : a < 128 ∨ 128 ≤ a ∧ 2048 ≤ a := by omega
      clear ha
      rcases hcase with a1 | ⟨a1, a2⟩
      all_goals
        go_enter Tryz.func48, Tryz.ntmps48
        go_upto_region 1 with (fail)
        refine wp_gen (fun Wv => Bx Wv (w.heap.size) (24) (#[.int .i64 0, .int .i64 0]) ∧ Bx Wv (w.heap.size + 1) (61) (#[.int .i64 0, .int .u64 0]) ∧ Below w.heap.size w Wv) ⟨(((Bx.at_ (by simp)).alloc _)), ((Bx.at_ (by simp))), (((Below.refl _ w).alloc (by simp <;> omega) _).alloc (by simp <;> omega) _)⟩ ?_
        rintro w' ⟨g4, g5, b⟩
        replace B := B.trans (b.mono B.size); clear b
        have c_g4 := g4.cell; have f_g4 := g4.free; have a_g4 := fun o => (g4.alloc o).cell; have d_g4 := fun o o2 => ((g4.alloc o).alloc o2).cell; have e_g4 := fun o => (g4.alloc o).free
        have c_g5 := g5.cell; have f_g5 := g5.free; have a_g5 := fun o => (g5.alloc o).cell; have d_g5 := fun o o2 => ((g5.alloc o).alloc o2).cell; have e_g5 := fun o => (g5.alloc o).free
        go_wp2_with fail
        refine (HAT.out _ (H.out.below B)).mono ?_
        rintro e w' ⟨xv, E, rfl, r1, b⟩
        try clear c_g4 f_g4 a_g4 d_g4 e_g4
        replace g4 := g4.below b; have c_g4 := g4.cell; have f_g4 := g4.free; have a_g4 := fun o => (g4.alloc o).cell; have d_g4 := fun o o2 => ((g4.alloc o).alloc o2).cell; have e_g4 := fun o => (g4.alloc o).free; try clear c_g5 f_g5 a_g5 d_g5 e_g5
        replace g5 := g5.below b; have c_g5 := g5.cell; have f_g5 := g5.free; have a_g5 := fun o => (g5.alloc o).cell; have d_g5 := fun o o2 => ((g5.alloc o).alloc o2).cell; have e_g5 := fun o => (g5.alloc o).free; replace B := B.trans (b.mono B.size); clear b
        go_wp2
        refine bodyPost_ret (v := .tuple #[.agg #[.int .i64 0, .int .i64 0], .agg #[.int .i64 0, .int .u64 0], .int .i64 2]) (by simp [results, Tryz.results48, go_sem, c_g4, f_g4, a_g4, e_g4, c_g5, f_g5, a_g5, e_g5]) rfl ?_
        refine ⟨rfl, ?_⟩
        (repeat (first | refine Below.setCell ?_ (by first | exact Nat.le_refl _ | (simp <;> omega)) _ | refine Below.alloc ?_ (by first | exact B.size | (have := B.size; simp <;> omega)) _)); exact B
  · have herr : L18.newErr l a = openErr l := by rw [L18.newErr, if_neg h0]
    have e1 : sl = 0 := h1.trans (if_neg (by rw [herr]; exact h0))
    have e2 : g = 0 := h2.trans (if_neg (by rw [herr]; exact h0))
    have e3 : ea = 0 := h3.trans (if_neg (by rw [herr]; exact h0))
    have e4 : ev = 0 := h4.trans (if_neg (by rw [herr]; exact h0))
    have hr0 : r = oe := by rw [h5, herr, hoe]
    have hne : (oe != 0) = true := by rw [bne_iff_ne, hoe]; exact h0
    clear h1 h2 h3 h4 herr h0 hoe hL h5
    subst e1 e2 e3 e4 hr0
    go_enter Tryz.func48, Tryz.ntmps48
    go_upto_region 1 with (fail)
    refine wp_gen (fun Wv => Bx Wv (w.heap.size) (24) (#[.int .i64 0, .int .i64 0]) ∧ Bx Wv (w.heap.size + 1) (61) (#[.int .i64 0, .int .u64 0]) ∧ Below w.heap.size w Wv) ⟨(((Bx.at_ (by simp)).alloc _)), ((Bx.at_ (by simp))), (((Below.refl _ w).alloc (by simp <;> omega) _).alloc (by simp <;> omega) _)⟩ ?_
    rintro w' ⟨g4, g5, b⟩
    replace B := B.trans (b.mono B.size); clear b
    have c_g4 := g4.cell; have f_g4 := g4.free; have a_g4 := fun o => (g4.alloc o).cell; have d_g4 := fun o o2 => ((g4.alloc o).alloc o2).cell; have e_g4 := fun o => (g4.alloc o).free
    have c_g5 := g5.cell; have f_g5 := g5.free; have a_g5 := fun o => (g5.alloc o).cell; have d_g5 := fun o o2 => ((g5.alloc o).alloc o2).cell; have e_g5 := fun o => (g5.alloc o).free
    go_wp2_with fail
    refine (HAT.out _ (H.out.below B)).mono ?_
    rintro e w' ⟨xv, E, rfl, r1, b⟩
    try clear c_g4 f_g4 a_g4 d_g4 e_g4
    replace g4 := g4.below b; have c_g4 := g4.cell; have f_g4 := g4.free; have a_g4 := fun o => (g4.alloc o).cell; have d_g4 := fun o o2 => ((g4.alloc o).alloc o2).cell; have e_g4 := fun o => (g4.alloc o).free; try clear c_g5 f_g5 a_g5 d_g5 e_g5
    replace g5 := g5.below b; have c_g5 := g5.cell; have f_g5 := g5.free; have a_g5 := fun o => (g5.alloc o).cell; have d_g5 := fun o o2 => ((g5.alloc o).alloc o2).cell; have e_g5 := fun o => (g5.alloc o).free; replace B := B.trans (b.mono B.size); clear b
    go_wp2
    refine bodyPost_ret (v := .tuple #[.agg #[.int .i64 0, .int .i64 0], .agg #[.int .i64 0, .int .u64 0], .int .i64 r]) (by simp [results, Tryz.results48, go_sem, c_g4, f_g4, a_g4, e_g4, c_g5, f_g5, a_g5, e_g5]) rfl ?_
    refine ⟨rfl, ?_⟩
    (repeat (first | refine Below.setCell ?_ (by first | exact Nat.le_refl _ | (simp <;> omega)) _ | refine Below.alloc ?_ (by first | exact B.size | (have := B.size; simp <;> omega)) _)); exact B
end Go.Proofs.YtbfmdbeeiicabaaGreat
namespace Go.Proofs.YtbfmdbeeiicabaaGreat
open Go.RowKit L01 L02 L05 L06 L07 L13 L14 L15 L18 L19 L20
theorem find_hd {l : List UInt64} {k a nn q : Nat} {sg : Int} {b : Hb} {t : List UInt8} (h : Hd l k a nn q sg b t) : find l a = b ∧ findErr l a = 0 := by
  obtain ⟨hbL, _⟩ := objs_mem.1 (List.mem_of_getElem? h.ho)
  obtain ⟨j, hj⟩ := List.getElem?_of_mem hbL
  have hp := List.pairwise_iff_getElem.1 (chain_apart (chain_iff.1 (parsed_ok.1 (allErr_ok h.rt.al).2).1)).2
  have hf : findB (allL l) a = some b := findB_first hj h.hat (fun i c hi hc e => by
    obtain ⟨i1, i2⟩ := List.getElem?_eq_some_iff.1 hc
    obtain ⟨j1, j2⟩ := List.getElem?_eq_some_iff.1 hj
    have := hp i j i1 j1 hi
    rw [i2, j2, h.hat, e] at this
    obtain ⟨x, _, _, hs, h4, _⟩ := all_mem h.rt.al (List.mem_of_getElem? hc)
    have hz := szN_ge hs
    have : c.size = szN l x := by rw [h4]; exact stand_size hs
    omega)
  have he : findErr l a = 0 := by rw [findErr, if_pos h.rt.al, hf]; rfl
  exact ⟨by rw [find, if_pos he, hf]; rfl, he⟩
set_option maxRecDepth 100000 in
set_option maxHeartbeats 2000000 in
theorem find24_any (v : Value) (l : List UInt64) (sl g n : Int) (p : Int) (kd : UInt8) (r : Int) (hp : p = kiAt l sl g n) (hk : kd = kiK l sl g n) (hr : r = kiErr l sl g n) (w : World) (h : Words w v l) :
    Calls Tryz.prog 42 #[v, .agg #[.int .i64 sl, .int .i64 g], .int .i64 n] w fun e w' => e = .returned (.tuple #[.int .i64 p, .int .u8 kd.toNat, .int .i64 r]) ∧ Below w.heap.size w w' := by
  have B : Below w.heap.size w w := Below.refl _ _
  have H := Lib.hid h
  obtain ⟨c, hc⟩ : ∃ c, c = chk19 l := ⟨_, rfl⟩
  have CK := Lib.hid (fun w h => Check19_any v l c hc w h)
  have hno : r ≠ 0 → p = 0 ∧ kd = 0 := fun h0 => ⟨by rw [hp, kiAt, if_neg (by rw [← hr]; exact h0)], by rw [hk, kiK, if_neg (by rw [← hr]; exact h0)]⟩
  by_cases h0 : c = 0
  case neg =>
    have haski : askI l sl g = c := by rw [askI, if_neg (by rw [← hc]; exact h0), hc]
    have hra : r = c := by rw [hr, kiErr, haski, if_neg h0]
    obtain ⟨rfl, rfl⟩ := hno (by rw [hra]; exact h0)
    subst hra
    have n1 : (r != 0) = true := by rw [bne_iff_ne]; exact h0
    clear hp hk hr hno h hc h0 haski
    go_enter Tryz.func42, Tryz.ntmps42
    go_upto_region 1 with (fail)
    refine wp_gen (fun Wv => Bx Wv (w.heap.size) (24) (#[.int .i64 sl, .int .i64 g]) ∧ Below w.heap.size w Wv) ⟨((Bx.at_ (by simp))), ((Below.refl _ w).alloc (by simp <;> omega) _)⟩ ?_
    rintro wa1 ⟨g1, b⟩
    replace B := B.trans (b.mono B.size); clear b
    have c_g1 := g1.cell; have f_g1 := g1.free; have a_g1 := fun o => (g1.alloc o).cell; have d_g1 := fun o o2 => ((g1.alloc o).alloc o2).cell; have e_g1 := fun o => (g1.alloc o).free
    go_wp2_with fail
    refine (CK.out _ (H.out.below B)).mono ?_
    rintro e wa2 ⟨rfl, b⟩
    try clear c_g1 f_g1 a_g1 d_g1 e_g1
    replace g1 := g1.below b; have c_g1 := g1.cell; have f_g1 := g1.free; have a_g1 := fun o => (g1.alloc o).cell; have d_g1 := fun o o2 => ((g1.alloc o).alloc o2).cell; have e_g1 := fun o => (g1.alloc o).free; replace B := B.trans (b.mono B.size); clear b
    go_wp2
    go_ret3
    exact ⟨rfl, B⟩
  case pos =>
    subst h0
    obtain ⟨x, hx⟩ : ∃ x, x = res l sl g := ⟨_, rfl⟩
    obtain ⟨d, hd⟩ : ∃ d, d = resErr l sl g := ⟨_, rfl⟩
    have RT := Lib.hid (fun w h => Resolve_any v l sl g x d hx hd w h)
    have ha : askI l sl g = d := by rw [askI, if_pos hc.symm, hd]
    by_cases h1 : d = 0
    case neg =>
      have hra : r = d := by rw [hr, kiErr, ha, if_neg h1]
      obtain ⟨rfl, rfl⟩ := hno (by rw [hra]; exact h1)
      subst hra
      have n1 : (r != 0) = true := by rw [bne_iff_ne]; exact h1
      clear hp hk hr hno h hc hx hd ha h1
      go_enter Tryz.func42, Tryz.ntmps42
      go_upto_region 1 with (fail)
      refine wp_gen (fun Wv => Bx Wv (w.heap.size) (24) (#[.int .i64 sl, .int .i64 g]) ∧ Below w.heap.size w Wv) ⟨((Bx.at_ (by simp))), ((Below.refl _ w).alloc (by simp <;> omega) _)⟩ ?_
      rintro wa1 ⟨g1, b⟩
      replace B := B.trans (b.mono B.size); clear b
      have c_g1 := g1.cell; have f_g1 := g1.free; have a_g1 := fun o => (g1.alloc o).cell; have d_g1 := fun o o2 => ((g1.alloc o).alloc o2).cell; have e_g1 := fun o => (g1.alloc o).free
      go_wp2_with fail
      refine (CK.out _ (H.out.below B)).mono ?_
      rintro e wa2 ⟨rfl, b⟩
      try clear c_g1 f_g1 a_g1 d_g1 e_g1
      replace g1 := g1.below b; have c_g1 := g1.cell; have f_g1 := g1.free; have a_g1 := fun o => (g1.alloc o).cell; have d_g1 := fun o o2 => ((g1.alloc o).alloc o2).cell; have e_g1 := fun o => (g1.alloc o).free; replace B := B.trans (b.mono B.size); clear b
      go_wp2_with fail
      refine (RT.out _ (H.out.below B)).mono ?_
      rintro e wa3 ⟨rfl, b⟩
      try clear c_g1 f_g1 a_g1 d_g1 e_g1
      replace g1 := g1.below b; have c_g1 := g1.cell; have f_g1 := g1.free; have a_g1 := fun o => (g1.alloc o).cell; have d_g1 := fun o o2 => ((g1.alloc o).alloc o2).cell; have e_g1 := fun o => (g1.alloc o).free; replace B := B.trans (b.mono B.size); clear b
      go_wp2
      go_ret3
      exact ⟨rfl, B⟩
    case pos =>
      subst h1
      obtain ⟨k, a, nn, q, b, t, rfl, hh⟩ := Hd.of ha
      obtain ⟨f1, f2⟩ := find_hd hh
      have hxa : x = (a : Int) := by rw [hx]; exact hh.hres
      have rt := hh.rt
      have FT := Lib.hid (fun w h => Find_any v l a b 0 f1.symm f2.symm w h)
      obtain ⟨sw, hsw⟩ : ∃ x, x = sW l := ⟨_, rfl⟩
      obtain ⟨st, hst⟩ : ∃ x, x = sT l := ⟨_, rfl⟩
      obtain ⟨i0, hi0⟩ : ∃ x, x = is0 l := ⟨_, rfl⟩
      obtain ⟨i1, hi1⟩ : ∃ x, x = is1 l := ⟨_, rfl⟩
      obtain ⟨T, hT⟩ : ∃ T, T = T19 l := ⟨_, rfl⟩
      have T3 := Lib.hid (fun w h => TRead_any v l sw st i0 i1 0 hsw hst hi0 hi1 rt.tw.symm w h)
      have KT := Lib.hid (fun w h => KTable_any v l st T 0 (by rw [hT, hst]; rfl) (by rw [hst]; exact rt.ty.symm) w h)
      have hTq : T[q]? = some t := by rw [hT]; exact hh.hT
      have hqT := (List.getElem?_eq_some_iff.1 hTq).1
      obtain ⟨nf, hnf⟩ : ∃ N, N = t.length := ⟨_, rfl⟩
      have hn8 : nf ≤ 8 := by rw [hnf]; exact hh.hn8
      have ha2 := hh.ha2
      have hbq := hh.hty
      have hki : kiErr l k g n = if 0 ≤ n ∧ n < (nf : Int) then 0 else 2 := by rw [kiErr, if_pos ha, hh.kinds, hnf]
      have hki2 : 0 ≤ n ∧ n < (nf : Int) → p = (a : Int) + 2 + n ∧ kd = t.getD n.toNat 0 := fun hn => by
        have e0 : kiErr l k g n = 0 := by rw [hki, if_pos hn]
        exact ⟨by rw [hp, kiAt, if_pos e0, hh.hres], by rw [hk, kiK, if_pos e0, hh.kinds]⟩
      rw [← hr] at hki
      have HKI := Lib.hid hki; have HKI2 := Lib.hid hki2; have HNO := Lib.hid hno; have HTQ := Lib.hid hTq; have HNF := Lib.hid hnf; have HQT := Lib.hid hqT
      subst hxa
      obtain ⟨bat, bsz, bkd, bty, bmk, bnx⟩ := b
      dsimp only at hbq
      subst hbq
      clear hp hk hr hno h hc hx hd ha hh f1 f2 rt hsw hst hi0 hi1 hT hTq hqT hnf hki hki2
      go_enter Tryz.func42, Tryz.ntmps42
      go_upto_region 1 with (fail)
      refine wp_gen (fun Wv => Bx Wv (w.heap.size) (24) (#[.int .i64 k, .int .i64 g]) ∧ Below w.heap.size w Wv) ⟨((Bx.at_ (by simp))), ((Below.refl _ w).alloc (by simp <;> omega) _)⟩ ?_
      rintro wa1 ⟨g1, b⟩
      replace B := B.trans (b.mono B.size); clear b
      have c_g1 := g1.cell; have f_g1 := g1.free; have a_g1 := fun o => (g1.alloc o).cell; have d_g1 := fun o o2 => ((g1.alloc o).alloc o2).cell; have e_g1 := fun o => (g1.alloc o).free
      go_wp2_with fail
      refine (CK.out _ (H.out.below B)).mono ?_
      rintro e wa2 ⟨rfl, b⟩
      try clear c_g1 f_g1 a_g1 d_g1 e_g1
      replace g1 := g1.below b; have c_g1 := g1.cell; have f_g1 := g1.free; have a_g1 := fun o => (g1.alloc o).cell; have d_g1 := fun o o2 => ((g1.alloc o).alloc o2).cell; have e_g1 := fun o => (g1.alloc o).free; replace B := B.trans (b.mono B.size); clear b
      go_wp2_with fail
      refine (RT.out _ (H.out.below B)).mono ?_
      rintro e wa3 ⟨rfl, b⟩
      try clear c_g1 f_g1 a_g1 d_g1 e_g1
      replace g1 := g1.below b; have c_g1 := g1.cell; have f_g1 := g1.free; have a_g1 := fun o => (g1.alloc o).cell; have d_g1 := fun o o2 => ((g1.alloc o).alloc o2).cell; have e_g1 := fun o => (g1.alloc o).free; replace B := B.trans (b.mono B.size); clear b
      clear c_g1 f_g1 a_g1 d_g1 e_g1
      clear g1
      go_wp2_with fail
      refine (FT.out _ (H.out.below B)).mono ?_
      rintro e wa4 ⟨rfl, b⟩
      replace B := B.trans (b.mono B.size); clear b
      go_upto_region 8 with (fail)
      refine wp_gen (fun Wv => Bx Wv (wa4.heap.size) (69) (#[.int .i64 bat, .int .i64 bsz, .int .i64 bkd, .int .i64 q, .bool bmk, .int .u64 bnx.toNat]) ∧ Below wa4.heap.size wa4 Wv) ⟨((Bx.at_ (by simp))), ((Below.refl _ wa4).alloc (by simp <;> omega) _)⟩ ?_
      rintro wa5 ⟨g2, b⟩
      replace B := B.trans (b.mono B.size); clear b
      have c_g2 := g2.cell; have f_g2 := g2.free; have a_g2 := fun o => (g2.alloc o).cell; have d_g2 := fun o o2 => ((g2.alloc o).alloc o2).cell; have e_g2 := fun o => (g2.alloc o).free
      go_wp2_with fail
      refine (T3.out _ (H.out.below B)).mono ?_
      rintro e wa6 ⟨rfl, b⟩
      try clear c_g2 f_g2 a_g2 d_g2 e_g2
      replace g2 := g2.below b; have c_g2 := g2.cell; have f_g2 := g2.free; have a_g2 := fun o => (g2.alloc o).cell; have d_g2 := fun o o2 => ((g2.alloc o).alloc o2).cell; have e_g2 := fun o => (g2.alloc o).free; replace B := B.trans (b.mono B.size); clear b
      go_upto_region 11 with (fail)
      refine wp_gen (fun Wv => Bx Wv (wa6.heap.size) (85) (#[.int .i64 sw, .int .i64 st]) ∧ Below wa6.heap.size wa6 Wv) ⟨(((Bx.at_ (by simp)).alloc _)), (((Below.refl _ wa6).alloc (by simp <;> omega) _).alloc (by simp <;> omega) _)⟩ ?_
      rintro wa7 ⟨g3, b⟩
      try clear c_g2 f_g2 a_g2 d_g2 e_g2
      replace g2 := g2.below b; have c_g2 := g2.cell; have f_g2 := g2.free; have a_g2 := fun o => (g2.alloc o).cell; have d_g2 := fun o o2 => ((g2.alloc o).alloc o2).cell; have e_g2 := fun o => (g2.alloc o).free; replace B := B.trans (b.mono B.size); clear b
      have c_g3 := g3.cell; have f_g3 := g3.free; have a_g3 := fun o => (g3.alloc o).cell; have d_g3 := fun o o2 => ((g3.alloc o).alloc o2).cell; have e_g3 := fun o => (g3.alloc o).free
      go_wp2_with fail
      refine (KT.out _ (H.out.below B)).mono ?_
      rintro e wa8 ⟨xt, rfl, ot, b⟩
      try clear c_g2 f_g2 a_g2 d_g2 e_g2
      replace g2 := g2.below b; have c_g2 := g2.cell; have f_g2 := g2.free; have a_g2 := fun o => (g2.alloc o).cell; have d_g2 := fun o o2 => ((g2.alloc o).alloc o2).cell; have e_g2 := fun o => (g2.alloc o).free; try clear c_g3 f_g3 a_g3 d_g3 e_g3
      replace g3 := g3.below b; have c_g3 := g3.cell; have f_g3 := g3.free; have a_g3 := fun o => (g3.alloc o).cell; have d_g3 := fun o o2 => ((g3.alloc o).alloc o2).cell; have e_g3 := fun o => (g3.alloc o).free; replace B := B.trans (b.mono B.size); clear b
      clear c_g3 f_g3 a_g3 d_g3 e_g3
      clear g3
      obtain ⟨ad, yt, t2, iy, m3, ht2, hby⟩ := ot.rd.at_ HQT.out
      obtain rfl : t2 = t := by have := ht2.out; rw [HTQ.out] at this; injection this with e; exact e.symm
      have lx := Rd.len hby.out Tryz.underlying94
      rw [← HNF.out] at lx
      have HBY := Lib.hid hby.out
      clear ht2 hby ot f_g2 a_g2 d_g2 e_g2
      by_cases hn : 0 ≤ n ∧ n < (nf : Int)
      · obtain ⟨hn0, hn1⟩ := hn
        obtain ⟨e1, e2⟩ := HKI2.out ⟨hn0, hn1⟩
        have hr0 : r = 0 := by rw [HKI.out, if_pos ⟨hn0, hn1⟩]
        obtain ⟨i, rfl⟩ := Int.eq_ofNat_of_zero_le hn0
        obtain ⟨bd, kk, ib, m4, hkk⟩ := HBY.out.at_ (P := Tryz.prog) Tryz.underlying94 one_u8 (k := i) (by rw [← HNF.out]; omega)
        have hkd : kd = kk := by rw [e2, Int.toNat_natCast, List.getD_eq_getElem?_getD, hkk.out]; rfl
        subst hr0; subst hkd; subst e1
        have g0 : decide ((i : Int) < 0) = false := decide_eq_false (by omega)
        have g4 : decide ((nf : Int) ≤ (i : Int)) = false := decide_eq_false (by omega)
        have g4' : decide (nf ≤ i) = false := decide_eq_false (by omega)
        have w1 : IntKind.i64.wrap ((a : Int) + 2) = (a : Int) + 2 := IntWalk.i64_in _ (by omega)
        have w2 : IntKind.i64.wrap ((a : Int) + 2 + (i : Int)) = (a : Int) + 2 + (i : Int) := IntWalk.i64_in _ (by omega)
        clear e2 hkk hn0 hn1
        go_wp2
        go_big_quiet (fail)
        go_wp2
        go_ret3
        exact ⟨rfl, below_drewN B _⟩
      · have hr0 : r = 2 := by rw [HKI.out, if_neg hn]
        obtain ⟨rfl, rfl⟩ := HNO.out (by rw [hr0]; decide)
        subst hr0
        by_cases hneg : n < 0
        · have g0 : decide (n < 0) = true := decide_eq_true hneg
          clear hn hneg
          go_wp2
          go_ret3
          exact ⟨rfl, B⟩
        · have g0 : decide (n < 0) = false := decide_eq_false hneg
          have g4 : decide ((nf : Int) ≤ n) = true := decide_eq_true (by omega)
          clear hn hneg
          go_wp2
          go_ret3
          exact ⟨rfl, B⟩
end Go.Proofs.YtbfmdbeeiicabaaGreat
namespace Go.Proofs.YtbfmdbeeiicabaaGreat
open Go.RowKit L01 L02 L05 L06 L07 L13 L14 L15 L18 L19 L20
theorem om_forms {w : World} {B E : Nat} {tv ov sv : Value} {m : Mo} (h : OwnM w B E tv ov sv m) : (∃ A n c, tv = .slice A n c) ∧ (∃ A n c, ov = .slice A n c) ∧ ∃ A n c, sv = .slice A n c := by
  refine ⟨form_T h.t, ?_, row_form h.s⟩
  obtain ⟨vs, z1, z2, _⟩ := h.o
  obtain ⟨A, c, e⟩ := own_form' z2
  exact ⟨A, _, c, e⟩
set_option maxRecDepth 100000 in
set_option maxHeartbeats 2000000 in
theorem AskedR_any (v : Value) (l : List UInt64) (sl g : Int) (p r : Int) (hp : p = atI l sl g) (hr : r = askI l sl g) (w : World) (h : Words w v l) :
    Calls Tryz.prog 28 #[v, .agg #[.int .i64 sl, .int .i64 g]] w fun e w' => e = .returned (.tuple #[.int .i64 p, .int .i64 r]) ∧ Below w.heap.size w w' := by
  have B : Below w.heap.size w w := Below.refl _ _
  have H := Lib.hid h
  obtain ⟨c, hc⟩ : ∃ c, c = chk19 l := ⟨_, rfl⟩
  have CK := Lib.hid (fun w h => Check19R_any v l c hc w h)
  have hno : r ≠ 0 → p = 0 := fun h0 => by rw [hp, atI, if_neg (by rw [← hr]; exact h0)]
  by_cases h0 : c = 0
  case neg =>
    have hra : r = c := by rw [hr, askI, if_neg (by rw [← hc]; exact h0), hc]
    obtain rfl := hno (by rw [hra]; exact h0)
    subst hra
    have n1 : (r != 0) = true := by rw [bne_iff_ne]; exact h0
    clear hp hr hno h hc h0
    go_enter Tryz.func28, Tryz.ntmps28
    go_upto_region 1 with (fail)
    refine wp_gen (fun Wv => Bx Wv (w.heap.size) (24) (#[.int .i64 sl, .int .i64 g]) ∧ Below w.heap.size w Wv) ⟨((Bx.at_ (by simp))), ((Below.refl _ w).alloc (by simp <;> omega) _)⟩ ?_
    rintro wa1 ⟨g1, b⟩
    replace B := B.trans (b.mono B.size); clear b
    have c_g1 := g1.cell; have f_g1 := g1.free; have a_g1 := fun o => (g1.alloc o).cell; have d_g1 := fun o o2 => ((g1.alloc o).alloc o2).cell; have e_g1 := fun o => (g1.alloc o).free
    go_wp2_with fail
    refine (CK.out _ (H.out.below B)).mono ?_
    rintro e wa2 ⟨rfl, b⟩
    try clear c_g1 f_g1 a_g1 d_g1 e_g1
    replace g1 := g1.below b; have c_g1 := g1.cell; have f_g1 := g1.free; have a_g1 := fun o => (g1.alloc o).cell; have d_g1 := fun o o2 => ((g1.alloc o).alloc o2).cell; have e_g1 := fun o => (g1.alloc o).free; replace B := B.trans (b.mono B.size); clear b
    go_wp2
    go_ret2
    exact ⟨rfl, B⟩
  case pos =>
    subst h0
    have rt : Rt l := Rt.of hc.symm
    obtain ⟨S, hS⟩ : ∃ S, S = slots l := ⟨_, rfl⟩
    have ST := Lib.hid (fun w h => SlotsR_any v l rt.sz S (by rw [hS, all, if_pos rt.sl]) w h)
    obtain ⟨d, hd⟩ : ∃ d, d = rightErr S sl g := ⟨_, rfl⟩
    have RT := Lib.hid (fun x w (h : Slots w x S) => RightR_any x S sl g d hd w h)
    have hra : r = d := by rw [hr, askI, if_pos hc.symm, resErr, if_pos rt.sl, hd, hS]
    by_cases h1 : d = 0
    case neg =>
      obtain rfl := hno (by rw [hra]; exact h1)
      subst hra
      have n1 : (r != 0) = true := by rw [bne_iff_ne]; exact h1
      clear hp hr hno h hc hd h1 rt hS
      go_enter Tryz.func28, Tryz.ntmps28
      go_upto_region 1 with (fail)
      refine wp_gen (fun Wv => Bx Wv (w.heap.size) (24) (#[.int .i64 sl, .int .i64 g]) ∧ Below w.heap.size w Wv) ⟨((Bx.at_ (by simp))), ((Below.refl _ w).alloc (by simp <;> omega) _)⟩ ?_
      rintro wa1 ⟨g1, b⟩
      replace B := B.trans (b.mono B.size); clear b
      have c_g1 := g1.cell; have f_g1 := g1.free; have a_g1 := fun o => (g1.alloc o).cell; have d_g1 := fun o o2 => ((g1.alloc o).alloc o2).cell; have e_g1 := fun o => (g1.alloc o).free
      go_wp2_with fail
      refine (CK.out _ (H.out.below B)).mono ?_
      rintro e wa2 ⟨rfl, b⟩
      try clear c_g1 f_g1 a_g1 d_g1 e_g1
      replace g1 := g1.below b; have c_g1 := g1.cell; have f_g1 := g1.free; have a_g1 := fun o => (g1.alloc o).cell; have d_g1 := fun o o2 => ((g1.alloc o).alloc o2).cell; have e_g1 := fun o => (g1.alloc o).free; replace B := B.trans (b.mono B.size); clear b
      go_wp2_with fail
      refine (ST.out _ (H.out.below B)).mono ?_
      rintro e wa3 ⟨xs, rfl, os, b⟩
      try clear c_g1 f_g1 a_g1 d_g1 e_g1
      replace g1 := g1.below b; have c_g1 := g1.cell; have f_g1 := g1.free; have a_g1 := fun o => (g1.alloc o).cell; have d_g1 := fun o o2 => ((g1.alloc o).alloc o2).cell; have e_g1 := fun o => (g1.alloc o).free; replace B := B.trans (b.mono B.size); clear b
      go_wp2_with fail
      refine (RT.out _ _ os.rd).mono ?_
      rintro e wa4 ⟨rfl, b⟩
      try clear c_g1 f_g1 a_g1 d_g1 e_g1
      replace g1 := g1.below b; have c_g1 := g1.cell; have f_g1 := g1.free; have a_g1 := fun o => (g1.alloc o).cell; have d_g1 := fun o o2 => ((g1.alloc o).alloc o2).cell; have e_g1 := fun o => (g1.alloc o).free; replace os := os.below b; replace B := B.trans (b.mono B.size); clear b
      go_wp2
      go_ret2
      exact ⟨rfl, B⟩
    case pos =>
      subst h1; subst hra
      have ha : askI l sl g = 0 := hr.symm
      obtain ⟨k, a, nn, q, b, t, rfl, hh⟩ := Hd.of ha
      have hpa : p = (a : Int) := by rw [hp]; exact hh.hati
      subst hpa
      have hS16 : S.length = 16 := by rw [hS]; exact slots_len' rt.sl
      have hk16 := hh.hk
      have hSk : S[k]? = some ⟨g, true, a⟩ := by rw [hS]; exact hh.hs
      have HSK := Lib.hid hSk; have HS16 := Lib.hid hS16
      clear hp hr hno h hc hd rt hS hh ha hSk hS16
      go_enter Tryz.func28, Tryz.ntmps28
      go_upto_region 1 with (fail)
      refine wp_gen (fun Wv => Bx Wv (w.heap.size) (24) (#[.int .i64 k, .int .i64 g]) ∧ Below w.heap.size w Wv) ⟨((Bx.at_ (by simp))), ((Below.refl _ w).alloc (by simp <;> omega) _)⟩ ?_
      rintro wa1 ⟨g1, b⟩
      replace B := B.trans (b.mono B.size); clear b
      have c_g1 := g1.cell; have f_g1 := g1.free; have a_g1 := fun o => (g1.alloc o).cell; have d_g1 := fun o o2 => ((g1.alloc o).alloc o2).cell; have e_g1 := fun o => (g1.alloc o).free
      go_wp2_with fail
      refine (CK.out _ (H.out.below B)).mono ?_
      rintro e wa2 ⟨rfl, b⟩
      try clear c_g1 f_g1 a_g1 d_g1 e_g1
      replace g1 := g1.below b; have c_g1 := g1.cell; have f_g1 := g1.free; have a_g1 := fun o => (g1.alloc o).cell; have d_g1 := fun o o2 => ((g1.alloc o).alloc o2).cell; have e_g1 := fun o => (g1.alloc o).free; replace B := B.trans (b.mono B.size); clear b
      go_wp2_with fail
      refine (ST.out _ (H.out.below B)).mono ?_
      rintro e wa3 ⟨xs, rfl, os, b⟩
      try clear c_g1 f_g1 a_g1 d_g1 e_g1
      replace g1 := g1.below b; have c_g1 := g1.cell; have f_g1 := g1.free; have a_g1 := fun o => (g1.alloc o).cell; have d_g1 := fun o o2 => ((g1.alloc o).alloc o2).cell; have e_g1 := fun o => (g1.alloc o).free; replace B := B.trans (b.mono B.size); clear b
      go_wp2_with fail
      refine (RT.out _ _ os.rd).mono ?_
      rintro e wa4 ⟨rfl, b⟩
      try clear c_g1 f_g1 a_g1 d_g1 e_g1
      replace g1 := g1.below b; have c_g1 := g1.cell; have f_g1 := g1.free; have a_g1 := fun o => (g1.alloc o).cell; have d_g1 := fun o o2 => ((g1.alloc o).alloc o2).cell; have e_g1 := fun o => (g1.alloc o).free; replace os := os.below b; replace B := B.trans (b.mono B.size); clear b
      obtain ⟨b8, o8, s, it, c0, c1, c2, hs⟩ := os.rd.at_ (P := Tryz.prog) Tryz.underlying79 size_slot (k := k) (by rw [HS16.out]; exact hk16)
      obtain rfl : s = ⟨g, true, a⟩ := by have := hs.out; rw [HSK.out] at this; injection this with e; exact e.symm
      dsimp only at c0 c1 c2
      clear hs os
      go_wp2
      go_ret2
      exact ⟨rfl, B⟩
set_option maxRecDepth 100000 in
set_option maxHeartbeats 4000000 in
theorem Kind24_any (v : Value) (l : List UInt64) (sl g n : Int) (p : Int) (kd : UInt8) (r : Int) (hp : p = kiAt l sl g n) (hk : kd = kiK l sl g n) (hr : r = kiErr l sl g n) (w : World) (h : Words w v l) :
    Calls Tryz.prog 43 #[v, .agg #[.int .i64 sl, .int .i64 g], .int .i64 n] w fun e w' => e = .returned (.tuple #[.int .i64 p, .int .i64 kd.toNat, .int .i64 r]) ∧ Below w.heap.size w w' := by
  have B : Below w.heap.size w w := Below.refl _ _
  have H := Lib.hid h
  obtain ⟨d, hd⟩ : ∃ c, c = askI l sl g := ⟨_, rfl⟩
  obtain ⟨x, hx⟩ : ∃ c, c = atI l sl g := ⟨_, rfl⟩
  have AT := Lib.hid (fun w h => AskedR_any v l sl g x d hx hd w h)
  have hno : r ≠ 0 → p = 0 ∧ kd = 0 := fun h0 => ⟨by rw [hp, kiAt, if_neg (by rw [← hr]; exact h0)], by rw [hk, kiK, if_neg (by rw [← hr]; exact h0)]⟩
  by_cases h1 : d = 0
  case neg =>
    have hra : r = d := by rw [hr, kiErr, ← hd, if_neg h1]
    obtain ⟨rfl, rfl⟩ := hno (by rw [hra]; exact h1)
    subst hra
    have n1 : (r != 0) = true := by rw [bne_iff_ne]; exact h1
    clear hp hk hr hno h hx hd h1
    go_enter Tryz.func43, Tryz.ntmps43
    go_upto_region 1 with (fail)
    refine wp_gen (fun Wv => Bx Wv (w.heap.size) (24) (#[.int .i64 sl, .int .i64 g]) ∧ Below w.heap.size w Wv) ⟨((Bx.at_ (by simp))), ((Below.refl _ w).alloc (by simp <;> omega) _)⟩ ?_
    rintro wa1 ⟨g1, b⟩
    replace B := B.trans (b.mono B.size); clear b
    have c_g1 := g1.cell; have f_g1 := g1.free; have a_g1 := fun o => (g1.alloc o).cell; have d_g1 := fun o o2 => ((g1.alloc o).alloc o2).cell; have e_g1 := fun o => (g1.alloc o).free
    go_wp2_with fail
    refine (AT.out _ (H.out.below B)).mono ?_
    rintro e wa2 ⟨rfl, b⟩
    try clear c_g1 f_g1 a_g1 d_g1 e_g1
    replace g1 := g1.below b; have c_g1 := g1.cell; have f_g1 := g1.free; have a_g1 := fun o => (g1.alloc o).cell; have d_g1 := fun o o2 => ((g1.alloc o).alloc o2).cell; have e_g1 := fun o => (g1.alloc o).free; replace B := B.trans (b.mono B.size); clear b
    go_wp2
    go_ret3
    exact ⟨rfl, B⟩
  case pos =>
    subst h1
    obtain ⟨k, a, nn, q, b, t, rfl, hh⟩ := Hd.of hd.symm
    have hxa : x = (a : Int) := by rw [hx]; exact hh.hati
    have rt := hh.rt
    have SN := Lib.hid (fun w h => SeenR_any v l rt w h)
    obtain ⟨m, hm⟩ : ∃ m, m = L19.seen l := ⟨_, rfl⟩
    rw [← hm] at SN
    have hmT : m.types[q]? = some t := by rw [hm]; exact hh.hT
    have hqT := (List.getElem?_eq_some_iff.1 hmT).1
    have hmS : m.slots[k]? = some ⟨g, true, nn⟩ := by
      rw [hm]; unfold L19.seen
      show ((slots l).map (slOf (O19 l)))[k]? = _
      rw [List.getElem?_map, hh.hs, Option.map_some, slOf_used rfl]
      dsimp only
      rw [← hh.hat]
      unfold idxI; rw [idx_at rt.al hh.ho]
    have hmO : ∃ o, m.objs[nn]? = some o ∧ o.ty = (q : Int) := by
      rw [hm]
      refine ⟨obOf l (T19 l) (O19 l) b, ?_, hh.hty⟩
      show ((O19 l).map _)[nn]? = _
      rw [List.getElem?_map, hh.ho]; rfl
    have hkS := (List.getElem?_eq_some_iff.1 hmS).1
    obtain ⟨o, hmO, hoq⟩ := hmO
    have hnO := (List.getElem?_eq_some_iff.1 hmO).1
    obtain ⟨nf, hnf⟩ : ∃ N, N = t.length := ⟨_, rfl⟩
    have hn8 : nf ≤ 8 := by rw [hnf]; exact hh.hn8
    have ha2 := hh.ha2
    have hki : kiErr l k g n = if 0 ≤ n ∧ n < (nf : Int) then 0 else 2 := by rw [kiErr, if_pos hd.symm, hh.kinds, hnf]
    have hki2 : 0 ≤ n ∧ n < (nf : Int) → p = (a : Int) + 2 + n ∧ kd = t.getD n.toNat 0 := fun hn => by
      have e0 : kiErr l k g n = 0 := by rw [hki, if_pos hn]
      exact ⟨by rw [hp, kiAt, if_pos e0, hh.hres], by rw [hk, kiK, if_pos e0, hh.kinds]⟩
    rw [← hr] at hki
    have HKI := Lib.hid hki; have HKI2 := Lib.hid hki2; have HNO := Lib.hid hno; have HNF := Lib.hid hnf
    have HM := Lib.hid (And.intro hmT (And.intro hmS (And.intro hmO hoq))); have HLT := Lib.hid (And.intro hqT (And.intro hkS hnO))
    subst hxa
    clear hp hk hr hno h hx hd hh rt hmT hqT hnf hki hki2 hm hmS hmO hoq hkS hnO
    go_enter Tryz.func43, Tryz.ntmps43
    go_upto_region 1 with (fail)
    refine wp_gen (fun Wv => Bx Wv (w.heap.size) (24) (#[.int .i64 k, .int .i64 g]) ∧ Below w.heap.size w Wv) ⟨((Bx.at_ (by simp))), ((Below.refl _ w).alloc (by simp <;> omega) _)⟩ ?_
    rintro wa1 ⟨g1, b⟩
    replace B := B.trans (b.mono B.size); clear b
    have c_g1 := g1.cell; have f_g1 := g1.free; have a_g1 := fun o => (g1.alloc o).cell; have d_g1 := fun o o2 => ((g1.alloc o).alloc o2).cell; have e_g1 := fun o => (g1.alloc o).free
    go_wp2_with fail
    refine (AT.out _ (H.out.below B)).mono ?_
    rintro e wa2 ⟨rfl, b⟩
    try clear c_g1 f_g1 a_g1 d_g1 e_g1
    replace g1 := g1.below b; have c_g1 := g1.cell; have f_g1 := g1.free; have a_g1 := fun o => (g1.alloc o).cell; have d_g1 := fun o o2 => ((g1.alloc o).alloc o2).cell; have e_g1 := fun o => (g1.alloc o).free; replace B := B.trans (b.mono B.size); clear b
    go_wp2_with fail
    refine (SN.out _ (H.out.below B)).mono ?_
    rintro e wa3 ⟨t', o', s', rfl, om, b⟩
    try clear c_g1 f_g1 a_g1 d_g1 e_g1
    replace g1 := g1.below b; have c_g1 := g1.cell; have f_g1 := g1.free; have a_g1 := fun o => (g1.alloc o).cell; have d_g1 := fun o o2 => ((g1.alloc o).alloc o2).cell; have e_g1 := fun o => (g1.alloc o).free; replace B := B.trans (b.mono B.size); clear b
    obtain ⟨⟨tA, tn, tc, rfl⟩, ⟨oA, on, oc, rfl⟩, ⟨sA, sn, sc, rfl⟩⟩ := om_forms om
    go_upto_region 5 with (fail)
    refine wp_gen (fun Wv => Bx Wv (wa3.heap.size) (97) (#[.slice tA tn tc, .slice oA on oc, .slice sA sn sc]) ∧ Below wa3.heap.size wa3 Wv) ⟨((Bx.at_ (by simp))), ((Below.refl _ wa3).alloc (by simp <;> omega) _)⟩ ?_
    rintro wa4 ⟨g2, b⟩
    try clear c_g1 f_g1 a_g1 d_g1 e_g1
    replace g1 := g1.below b; have c_g1 := g1.cell; have f_g1 := g1.free; have a_g1 := fun o => (g1.alloc o).cell; have d_g1 := fun o o2 => ((g1.alloc o).alloc o2).cell; have e_g1 := fun o => (g1.alloc o).free; replace om := om.below b; replace B := B.trans (b.mono B.size); clear b
    have c_g2 := g2.cell; have f_g2 := g2.free; have a_g2 := fun o => (g2.alloc o).cell; have d_g2 := fun o o2 => ((g2.alloc o).alloc o2).cell; have e_g2 := fun o => (g2.alloc o).free
    obtain ⟨ad, yt, t2, iy, m3, ht2, hby⟩ := om.t.rd.at_ HLT.out.1
    obtain rfl : t2 = t := by have := ht2.out; rw [HM.out.1] at this; injection this with e; exact e.symm
    obtain ⟨b8, o8, s, it, c0, c1, c2, hs⟩ := om.s.rd.at_ (P := Tryz.prog) Tryz.underlying79 size_slot (k := k) HLT.out.2.1
    obtain rfl : s = ⟨g, true, nn⟩ := by have := hs.out; rw [HM.out.2.1] at this; injection this with e; exact e.symm
    obtain ⟨bo, oq, x0, o2, ix, m1, m2, ho2, hx0, hob⟩ := om.o.rd.at_ (k := nn) HLT.out.2.2
    obtain rfl : o2 = o := by have := ho2.out; rw [HM.out.2.2.1] at this; injection this with e; exact e.symm
    rw [HM.out.2.2.2] at m1
    have lx := Rd.len hby.out Tryz.underlying94
    rw [← HNF.out] at lx
    have HBY := Lib.hid hby.out
    dsimp only at c0 c1 c2
    clear ht2 hby om hs ho2 hx0 hob f_g1 a_g1 d_g1 e_g1 f_g2 a_g2 d_g2 e_g2
    go_upto_region 5 with (fail)
    go_big_quiet (fail)
    replace B := below_drewN B nq
    by_cases hn : 0 ≤ n ∧ n < (nf : Int)
    · obtain ⟨hn0, hn1⟩ := hn
      obtain ⟨e1, e2⟩ := HKI2.out ⟨hn0, hn1⟩
      have hr0 : r = 0 := by rw [HKI.out, if_pos ⟨hn0, hn1⟩]
      obtain ⟨i, rfl⟩ := Int.eq_ofNat_of_zero_le hn0
      obtain ⟨bd, kk, ib, m4, hkk⟩ := HBY.out.at_ (P := Tryz.prog) Tryz.underlying94 one_u8 (k := i) (by rw [← HNF.out]; omega)
      have hkd : kd = kk := by rw [e2, Int.toNat_natCast, List.getD_eq_getElem?_getD, hkk.out]; rfl
      subst hr0; subst hkd; subst e1
      have g0 : decide ((i : Int) < 0) = false := decide_eq_false (by omega)
      have g4 : decide ((nf : Int) ≤ (i : Int)) = false := decide_eq_false (by omega)
      have g4' : decide (nf ≤ i) = false := decide_eq_false (by omega)
      have w1 : IntKind.i64.wrap ((a : Int) + 2) = (a : Int) + 2 := IntWalk.i64_in _ (by omega)
      have w2 : IntKind.i64.wrap ((a : Int) + 2 + (i : Int)) = (a : Int) + 2 + (i : Int) := IntWalk.i64_in _ (by omega)
      have w3 : IntKind.i64.wrap (kd.toNat : Int) = (kd.toNat : Int) := IntWalk.i64_in _ (by have := kd.toNat_lt; omega)
      clear e2 hkk hn0 hn1
      go_wp2
      go_big_quiet (fail)
      go_wp2
      go_ret3
      exact ⟨rfl, below_drewN B _⟩
    · have hr0 : r = 2 := by rw [HKI.out, if_neg hn]
      obtain ⟨rfl, rfl⟩ := HNO.out (by rw [hr0]; decide)
      subst hr0
      by_cases hneg : n < 0
      · have g0 : decide (n < 0) = true := decide_eq_true hneg
        clear hn hneg
        go_wp2
        go_ret3
        exact ⟨rfl, B⟩
      · have g0 : decide (n < 0) = false := decide_eq_false hneg
        have g4 : decide ((nf : Int) ≤ n) = true := decide_eq_true (by omega)
        clear hn hneg
        go_wp2
        go_ret3
        exact ⟨rfl, B⟩
end Go.Proofs.YtbfmdbeeiicabaaGreat
namespace Go.Proofs.YtbfmdbeeiicabaaGreat
open Go.RowKit
/-- a pointer to a handle, or none -/
def PtrH (w : World) (v : Value) (tt : Option (Int × Int)) : Prop := match tt with
  | none => v = .pointer none
  | some t => ∃ g, v = .pointer (some ⟨g, 0, none⟩) ∧ Bx w g 24 #[.int .i64 t.1, .int .i64 t.2]
theorem PtrH.below {w w' : World} {v : Value} {tt : Option (Int × Int)} (h : PtrH w v tt) (hb : Below w.heap.size w w') : PtrH w' v tt := by
  cases tt with
  | none => exact h
  | some t => obtain ⟨g, h1, h2⟩ := h; exact ⟨g, h1, h2.below hb⟩
end Go.Proofs.YtbfmdbeeiicabaaGreat
