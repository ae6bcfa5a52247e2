/- Contracts of the functions that the law 'ModelImages' reaches, part 2. No condition. -/
import Derived.Test.YtbfmdbeeiicabaaMMIsa
set_option linter.unusedVariables false
set_option linter.unusedSimpArgs false
namespace Go.Proofs.Ytbfmdbeeiicabaa
open Go.RowKit L01 L02 L18
def slC (s : Sl) : List Value := [.int .i64 s.gen, .bool s.used, .int .i64 s.at_]
def tabL (L : List Sl) : List Value := L.flatMap slC
def tab (L : List Sl) : Array Value := (tabL L).toArray
def tabOf (l : List UInt64) : List Sl := if openErr l = 0 then slots l else List.replicate 16 .none
theorem tabL_len (L : List Sl) : (tabL L).length = L.length * 3 := by
  induction L with
  | nil => rfl
  | cons s L ih => rw [tabL, List.flatMap_cons, List.length_append, ← tabL, ih]; simp [slC]; omega
theorem tabL_get : ∀ (L : List Sl) (k : Nat) (s : Sl), L[k]? = some s → ∀ i, i < 3 → (tabL L)[k * 3 + i]? = (slC s)[i]?
  | [], _, _, h, _, _ => by cases h
  | t :: L, 0, s, h, i, hi => by
    simp at h; subst h
    rw [tabL, List.flatMap_cons, Nat.zero_mul, Nat.zero_add, List.getElem?_append_left (by simpa [slC] using hi)]
  | t :: L, k + 1, s, h, i, hi => by
    rw [tabL, List.flatMap_cons, List.getElem?_append_right (by simp [slC]; omega)]
    rw [show (k + 1) * 3 + i - (slC t).length = k * 3 + i by simp [slC]; omega]
    exact tabL_get L k s (by simpa using h) i hi
theorem tabL_one (L : List Sl) : ∀ u ∈ tabL L, u.oneCell' = true := by
  intro u hu
  obtain ⟨s, _, hs⟩ := List.mem_flatMap.1 hu
  simp [slC] at hs
  rcases hs with rfl | rfl | rfl <;> rfl
theorem tab_size (L : List Sl) : (tab L).size = L.length * 3 := by simp [tab, tabL_len]
theorem ws_len {l : List UInt64} (h : SizeOk l.length) : (ws l).length = 16 := by
  have := h.1; simp [ws]; omega
theorem ws_get {l : List UInt64} {k : Nat} {x : UInt64} (hk : k < 16) (h : l[112 + k]? = some x) : (ws l)[k]? = some x := by
  rw [ws, List.getElem?_take, if_pos hk, List.getElem?_drop]; exact h
theorem slots_len {l : List UInt64} (h : SizeOk l.length) : (slots l).length = 16 := by rw [slots, List.length_map, ws_len h]
theorem tabOf_len (l : List UInt64) : (tabOf l).length = 16 := by
  unfold tabOf
  split
  · rename_i h
    unfold openErr at h
    split at h
    · exact slots_len ‹_›
    · omega
  · simp
theorem tabOf_size (l : List UInt64) : (tab (tabOf l)).size = 48 := by rw [tab_size, tabOf_len]
theorem size_table : (Try.prog.info? 127).map (·.size) = some 48 := by kernel_rfl
theorem size_slot : (Try.prog.info? 68).map (·.size) = some 3 := by kernel_rfl
theorem z48_one : (#[.int .i64 0, .bool false, .int .i64 0, .int .i64 0, .bool false, .int .i64 0, .int .i64 0, .bool false, .int .i64 0, .int .i64 0, .bool false, .int .i64 0, .int .i64 0, .bool false, .int .i64 0, .int .i64 0, .bool false, .int .i64 0, .int .i64 0, .bool false, .int .i64 0, .int .i64 0, .bool false, .int .i64 0, .int .i64 0, .bool false, .int .i64 0, .int .i64 0, .bool false, .int .i64 0, .int .i64 0, .bool false, .int .i64 0, .int .i64 0, .bool false, .int .i64 0, .int .i64 0, .bool false, .int .i64 0, .int .i64 0, .bool false, .int .i64 0, .int .i64 0, .bool false, .int .i64 0, .int .i64 0, .bool false, .int .i64 0] : Array Value).all (·.oneCell') = true := by simp [Value.oneCell']
theorem slot_one (s : Sl) : (#[.int .i64 s.gen, .bool s.used, .int .i64 s.at_] : Array Value).all (·.oneCell') = true := by simp [Value.oneCell']
/-- the cells cs have the first k slots of S -/
def TabTo (S : List Sl) (k : Nat) (cs : Array Value) : Prop := cs.size = 48 ∧ ∀ j, j < k * 3 → cs[j]? = (tabL S)[j]?
theorem TabTo.zero (S : List Sl) {cs : Array Value} (h : cs.size = 48) : TabTo S 0 cs := ⟨h, fun j hj => by omega⟩
theorem TabTo.succ {S : List Sl} {k : Nat} {cs : Array Value} {s : Sl} (h : TabTo S k cs) (hs : S[k]? = some s) (hk : k < 16) : TabTo S (k + 1) (putL cs (k * 3) (slC s)) := by
  refine ⟨by rw [putL_size]; exact h.1, fun j hj => ?_⟩
  rw [putL_get _ _ _ _ (by rw [h.1]; simp [slC]; omega)]
  by_cases h1 : k * 3 ≤ j
  · rw [if_pos ⟨h1, by simp [slC]; omega⟩]
    have := tabL_get S k s hs (j - k * 3) (by omega)
    rw [show k * 3 + (j - k * 3) = j by omega] at this
    exact this.symm
  · rw [if_neg (by omega)]
    exact h.2 j (by omega)
theorem TabTo.done {S : List Sl} {cs : Array Value} (h : TabTo S 16 cs) (hS : S.length = 16) : cs = tab S := by
  apply Array.ext_getElem?
  intro j
  by_cases hj : j < 48
  · rw [h.2 j hj]; simp [tab]
  · rw [Array.getElem?_eq_none (by rw [h.1]; omega), Array.getElem?_eq_none (by rw [tab_size, hS]; omega)]
theorem openErr_of {l : List UInt64} (h : SizeOk l.length) (h2 : ∀ x ∈ (ws l).take 16, Right (spl x)) : openErr l = 0 := by
  rw [openErr, if_pos h, if_pos]
  intro x hx
  exact h2 x (by rw [List.take_of_length_le (by rw [ws_len h]; omega)]; exact hx)
theorem openErr_no {l : List UInt64} (h : SizeOk l.length) {k : Nat} {x : UInt64} (hx : (ws l)[k]? = some x) (hn : ¬ Right (spl x)) : openErr l = 50 := by
  rw [openErr, if_pos h, if_neg]
  intro hall
  exact hn (hall x (List.mem_of_getElem? hx))
theorem right_take {l : List UInt64} {k : Nat} {x : UInt64} (h : ∀ y ∈ (ws l).take k, Right (spl y)) (hx : (ws l)[k]? = some x) (hr : Right (spl x)) : ∀ y ∈ (ws l).take (k + 1), Right (spl y) := by
  intro y hy
  rw [List.take_add_one, hx] at hy
  rcases List.mem_append.1 hy with hy | hy
  · exact h y hy
  · simp at hy; subst hy; exact hr
theorem tabNo (l : List UInt64) (h : openErr l ≠ 0) : tab (tabOf l) = #[.int .i64 0, .bool false, .int .i64 0, .int .i64 0, .bool false, .int .i64 0, .int .i64 0, .bool false, .int .i64 0, .int .i64 0, .bool false, .int .i64 0, .int .i64 0, .bool false, .int .i64 0, .int .i64 0, .bool false, .int .i64 0, .int .i64 0, .bool false, .int .i64 0, .int .i64 0, .bool false, .int .i64 0, .int .i64 0, .bool false, .int .i64 0, .int .i64 0, .bool false, .int .i64 0, .int .i64 0, .bool false, .int .i64 0, .int .i64 0, .bool false, .int .i64 0, .int .i64 0, .bool false, .int .i64 0, .int .i64 0, .bool false, .int .i64 0, .int .i64 0, .bool false, .int .i64 0, .int .i64 0, .bool false, .int .i64 0] := by rw [tabOf, if_neg h]; rfl
set_option maxRecDepth 100000 in
set_option maxHeartbeats 2000000 in
theorem open_any (v : Value) (l : List UInt64) (V : Array Value) (hV : V = tab (tabOf l)) (r : Int) (hr : r = openErr l) (w : World) (h : Words w v l) :
    Calls Try.prog 76 #[v] w fun e w' => e = .returned (.tuple #[.agg V, .int .i64 r]) ∧ Below w.heap.size w w' := by
  have B : Below w.heap.size w w := Below.refl _ _
  have HV := Lib.hid hV; have HR := Lib.hid hr; clear hV hr
  have CT := fun w h => Check_any v l w h
  by_cases hs : SizeOk l.length
  · rw [chk_ok hs] at CT
    have HC := Lib.hid CT; have H := Lib.hid h; have HS := Lib.hid hs
    have hlen := hs.1
    clear h hs CT
    go_enter Try.func76, Try.ntmps76
    go_wp2_with fail
    refine calls_gen (fun Wv => Bx Wv (w.heap.size) (127) (#[.int .i64 0, .bool false, .int .i64 0, .int .i64 0, .bool false, .int .i64 0, .int .i64 0, .bool false, .int .i64 0, .int .i64 0, .bool false, .int .i64 0, .int .i64 0, .bool false, .int .i64 0, .int .i64 0, .bool false, .int .i64 0, .int .i64 0, .bool false, .int .i64 0, .int .i64 0, .bool false, .int .i64 0, .int .i64 0, .bool false, .int .i64 0, .int .i64 0, .bool false, .int .i64 0, .int .i64 0, .bool false, .int .i64 0, .int .i64 0, .bool false, .int .i64 0, .int .i64 0, .bool false, .int .i64 0, .int .i64 0, .bool false, .int .i64 0, .int .i64 0, .bool false, .int .i64 0, .int .i64 0, .bool false, .int .i64 0]) ∧ Below w.heap.size w Wv) ⟨((Bx.at_ (by simp))), ((Below.refl _ w).alloc (by simp <;> omega) _)⟩ ?_
    rintro w' ⟨q0, b⟩
    replace B := B.trans (b.mono B.size); clear b
    have hz1 : w.heap.size < w'.heap.size := q0.lt
    obtain ⟨w1, hw1⟩ : ∃ w1, w1 = w' := ⟨_, rfl⟩
    subst hw1
    refine (HC.out _ (H.out.below B)).mono ?_
    rintro e w2 ⟨rfl, rfl⟩
    go_wp2
    refine wp_gen (fun Wv => Bx Wv (w1.heap.size) (127) (#[.int .i64 0, .bool false, .int .i64 0, .int .i64 0, .bool false, .int .i64 0, .int .i64 0, .bool false, .int .i64 0, .int .i64 0, .bool false, .int .i64 0, .int .i64 0, .bool false, .int .i64 0, .int .i64 0, .bool false, .int .i64 0, .int .i64 0, .bool false, .int .i64 0, .int .i64 0, .bool false, .int .i64 0, .int .i64 0, .bool false, .int .i64 0, .int .i64 0, .bool false, .int .i64 0, .int .i64 0, .bool false, .int .i64 0, .int .i64 0, .bool false, .int .i64 0, .int .i64 0, .bool false, .int .i64 0, .int .i64 0, .bool false, .int .i64 0, .int .i64 0, .bool false, .int .i64 0, .int .i64 0, .bool false, .int .i64 0]) ∧ Below w1.heap.size w1 Wv) ⟨((Bx.at_ (by simp))), ((Below.refl _ w1).alloc (by simp <;> omega) _)⟩ ?_
    rintro w' ⟨q1, b⟩
    replace q0 := q0.below b; replace B := B.trans (b.mono B.size); clear b
    have hq : w1.heap.size ≠ w.heap.size := by have := hz1; omega
    obtain ⟨S, hS⟩ : ∃ S, S = slots l := ⟨_, rfl⟩
    have HSS := Lib.hid hS; clear hS
    have HB := Lib.hid B; have HG := Lib.hid (And.intro q0 q1); clear B q0 q1
    go_loopw [15] (fun i wr => ∃ k : Nat, k ≤ 16 ∧ i = .int .i64 k ∧ Hid (Bx wr w.heap.size 127 #[.int .i64 0, .bool false, .int .i64 0, .int .i64 0, .bool false, .int .i64 0, .int .i64 0, .bool false, .int .i64 0, .int .i64 0, .bool false, .int .i64 0, .int .i64 0, .bool false, .int .i64 0, .int .i64 0, .bool false, .int .i64 0, .int .i64 0, .bool false, .int .i64 0, .int .i64 0, .bool false, .int .i64 0, .int .i64 0, .bool false, .int .i64 0, .int .i64 0, .bool false, .int .i64 0, .int .i64 0, .bool false, .int .i64 0, .int .i64 0, .bool false, .int .i64 0, .int .i64 0, .bool false, .int .i64 0, .int .i64 0, .bool false, .int .i64 0, .int .i64 0, .bool false, .int .i64 0, .int .i64 0, .bool false, .int .i64 0] ∧ (∃ cs, Bx wr w1.heap.size 127 cs ∧ TabTo S k cs) ∧ ∀ x ∈ (ws l).take k, Right (spl x)) ∧ Below w.heap.size w wr) (fun i _ => 16 - (intOf i).toNat)
    case atStart => exact ⟨0, by omega, rfl, Lib.hid ⟨HG.out.1, ⟨_, HG.out.2, TabTo.zero _ rfl⟩, by simp⟩, HB.out⟩
    case round =>
      obtain ⟨k, hk, rfl, hh, B⟩ := hrel
      by_cases hlt : k < 16
      · obtain ⟨ad, x, ia, ca, hx⟩ := (H.out.below B).atI Try.underlying22 one_u64 (k := 112 + (k : Int)) (by omega) (by omega)
        have hx' : (ws l)[k]? = some x := ws_get hlt (by have := hx.out; rwa [show (112 + (k : Int)).toNat = 112 + k by omega] at this)
        have HX := Lib.hid hx'; clear hx hx'
        by_cases hr : Right (spl x)
        · have SP := Split_r x (spl x) 0 (by rw [spl0, if_pos hr]) (by rw [splErr, if_pos hr])
          obtain ⟨s, hs⟩ : ∃ s, s = spl x := ⟨_, rfl⟩
          rw [← hs] at SP
          have HSP := Lib.hid SP; have HRR := Lib.hid hr; have HSX := Lib.hid hs; clear SP hr hs
          go_wp2_with fail
          refine (HSP.out _).mono ?_
          rintro e w2 ⟨rfl, b⟩
          obtain ⟨gg0, ⟨cs, gg1, ht⟩, hright⟩ := hh.out
          have b0 := gg0.below b; have b1 := gg1.below b; replace B := B.trans (b.mono B.size)
          clear b gg0 gg1
          have HT := Lib.hid ht; have HRT := Lib.hid hright; have hcs : k * 3 + 3 ≤ cs.size := by rw [ht.1]; omega
          clear ht hright
          go_wp2_with ((with_reducible refine at_store 68 33 32 ?_); refine wpList_storePart rfl _ _ _ rfl _ _ _ rfl rfl (b1.alloc _) size_slot (by simpa using hcs) (slot_one _) ?_; intro W c1 S1)
          have hgS : S[k]? = some s := by rw [HSS.out, slots, List.getElem?_map, HX.out, HSX.out]; rfl
          have HGS := Lib.hid hgS; have HC1 := Lib.hid c1; have HS1 := Lib.hid S1; have HB0 := Lib.hid b0; have HB := Lib.hid B
          clear hgS c1 S1 b0 B b1 hcs hh
          go_roundw
          case rel =>
            refine ⟨k + 1, by omega, by go_num, Lib.hid ⟨HS1.out.2 (by omega) (HB0.out.alloc _), ⟨_, HC1.out, ?_⟩, right_take HRT.out HX.out HRR.out⟩, HS1.out.1 (HB.out.alloc HB.out.size _) (by omega)⟩
            have := HT.out.succ HGS.out hlt
            exact this
          case measure => simp [intOf]; omega
        · have SP := Split_r x .none 50 (by rw [spl0, if_neg hr]) (by rw [splErr, if_neg hr])
          have he := openErr_no HS.out HX.out hr
          have hz := tabNo l (by rw [he]; omega)
          have HSP := Lib.hid SP; have HE := Lib.hid he; have HZ := Lib.hid hz; clear SP hr he hz
          go_wp2_with fail
          refine (HSP.out _).mono ?_
          rintro e w2 ⟨rfl, b⟩
          obtain ⟨gg0, ⟨cs, gg1, ht⟩, hright⟩ := hh.out
          have b0 := gg0.below b; replace B := B.trans (b.mono B.size)
          clear b gg0 gg1 ht hright hh
          go_wp2_with ((with_reducible refine at_store 127 2 29 ?_); refine wpList_storeRow rfl _ _ _ rfl _ _ rfl rfl (b0.alloc _) size_table rfl z48_one ?_; intro W g0 S0)
          refine bodyPost_ret (results_row rfl _ rfl g0 _ Try.underlying127 rfl size_table) rfl ⟨?_, S0.1 (B.alloc B.size _) (Nat.le_refl _)⟩
          rw [HV.out, HZ.out, HR.out, HE.out]; rfl
      · obtain rfl : k = 16 := by omega
        obtain ⟨gg0, ⟨cs, gg1, ht⟩, hright⟩ := hh.out
        have he := openErr_of HS.out hright
        have hcs := ht.done (by rw [HSS.out]; exact slots_len HS.out)
        have hV : V = cs := by rw [HV.out, tabOf, if_pos he, ← HSS.out, hcs]
        subst hV
        have hsz : V.size = 48 := ht.1
        have h1 : V.all (·.oneCell') = true := by rw [hcs]; exact all_oneCell_toArray (tabL_one S)
        have HCS := Lib.hid hcs; have HE := Lib.hid he; clear hcs he hright ht hh
        have HSZ := Lib.hid hsz; have H1 := Lib.hid h1; clear hsz h1
        go_wp2_with (first
          | ((with_reducible refine at_load 35 127 5 ?_); refine wpList_loadRow rfl _ _ rfl _ rfl gg1 _ Try.underlying127 rfl (by rw [HSZ.out]; exact size_table) ?_)
          | ((with_reducible refine at_store 127 2 35 ?_); refine wpList_storeRow rfl _ _ _ rfl _ _ rfl rfl gg0 (by rw [HSZ.out]; exact size_table) (by rw [HSZ.out]; rfl) H1.out ?_; intro W g0 S0))
        refine bodyPost_ret (results_row rfl _ rfl g0 _ Try.underlying127 rfl (by rw [HSZ.out]; exact size_table)) rfl ⟨?_, S0.1 B (Nat.le_refl _)⟩
        rw [HR.out, HE.out]; rfl
  · have hr8 : openErr l = 8 := by rw [openErr, if_neg hs]
    have hz := tabNo l (by rw [hr8]; omega)
    rw [chk_no hs] at CT
    have HZ := Lib.hid hz; have HR8 := Lib.hid hr8
    have HC := Lib.hid CT; have H := Lib.hid h; clear h hs hz hr8 CT
    go_enter Try.func76, Try.ntmps76
    go_wp2_with fail
    refine calls_gen (fun Wv => Bx Wv (w.heap.size) (127) (#[.int .i64 0, .bool false, .int .i64 0, .int .i64 0, .bool false, .int .i64 0, .int .i64 0, .bool false, .int .i64 0, .int .i64 0, .bool false, .int .i64 0, .int .i64 0, .bool false, .int .i64 0, .int .i64 0, .bool false, .int .i64 0, .int .i64 0, .bool false, .int .i64 0, .int .i64 0, .bool false, .int .i64 0, .int .i64 0, .bool false, .int .i64 0, .int .i64 0, .bool false, .int .i64 0, .int .i64 0, .bool false, .int .i64 0, .int .i64 0, .bool false, .int .i64 0, .int .i64 0, .bool false, .int .i64 0, .int .i64 0, .bool false, .int .i64 0, .int .i64 0, .bool false, .int .i64 0, .int .i64 0, .bool false, .int .i64 0]) ∧ Below w.heap.size w Wv) ⟨((Bx.at_ (by simp))), ((Below.refl _ w).alloc (by simp <;> omega) _)⟩ ?_
    rintro w' ⟨q0, b⟩
    replace B := B.trans (b.mono B.size); clear b
    refine (HC.out _ (H.out.below B)).mono ?_
    rintro e w1 ⟨rfl, rfl⟩
    go_wp2_with ((with_reducible refine at_store 127 2 13 ?_); refine wpList_storeRow rfl _ _ _ rfl _ _ rfl rfl q0 size_table rfl z48_one ?_; intro W g0 S0)
    refine bodyPost_ret (results_row rfl _ rfl g0 _ Try.underlying127 rfl size_table) rfl ⟨?_, S0.1 B (Nat.le_refl _)⟩
    rw [HV.out, HZ.out, HR.out, HR8.out]; rfl
end Go.Proofs.Ytbfmdbeeiicabaa
namespace Go.Proofs.Ytbfmdbeeiicabaa
open Go.RowKit L01 L02 L18
theorem tab_one (L : List Sl) : (tab L).all (·.oneCell') = true := all_oneCell_toArray (tabL_one L)
/-- A slice of slots. -/
def Slots (w : World) (v : Value) (L : List Sl) : Prop := Rd w 3 v L.length (tabL L)
def OwnS (w : World) (base E : Nat) (v : Value) (L : List Sl) : Prop := w.ownsRow base E 3 v L.length (tabL L)
theorem OwnS.rd {w : World} {base E : Nat} {v : Value} {L : List Sl} (h : OwnS w base E v L) : Slots w v L := Rd.of_own h
theorem Slots.below {w w' : World} {v : Value} {L : List Sl} (h : Slots w v L) (hb : Below w.heap.size w w') : Slots w' v L := Rd.below h hb
theorem OwnS.below {w w' : World} {base E : Nat} {v : Value} {L : List Sl} (h : OwnS w base E v L) (hb : Below w.heap.size w w') : OwnS w' base E v L := own_below h hb
theorem OwnS.nil (w : World) (base E : Nat) : OwnS w base E (.slice none 0 0) [] := World.ownsRow_nil w base E 3
/-- a whole array, taken as a slice. -/
theorem Bx.ownS {w : World} {g base : Nat} {t : TypeId} {cs : Array Value} {L : List Sl} (h : Bx w g t cs) (hb : base ≤ g) (hc : cs = tab L) (hL : L.length = 16) : OwnS w base t (.slice (some ⟨g, 0, none⟩) 16 16) L := by
  subst hc
  unfold OwnS
  rw [hL]
  refine ⟨by rw [tabL_len, hL], .inr ⟨g, 16, tab L, rfl, hb, h, Nat.le_refl _, by simp [maxLen], by rw [tab_size, hL], ?_⟩⟩
  rw [List.take_of_length_le (by simp [tab, tabL_len]; omega)]
  simp [tab]
theorem all_nil {l : List UInt64} (h : openErr l ≠ 0) : all l = [] := if_neg h
theorem all_ok {l : List UInt64} (h : openErr l = 0) : all l = slots l := if_pos h
theorem tabOf_ok {l : List UInt64} (h : openErr l = 0) : tabOf l = slots l := if_pos h
theorem slots16 {l : List UInt64} (h : openErr l = 0) : (slots l).length = 16 := by rw [← tabOf_ok h, tabOf_len]
set_option maxRecDepth 100000 in
set_option maxHeartbeats 1000000 in
theorem All18_any (v : Value) (l : List UInt64) (L : List Sl) (r : Int) (hL : L = all l) (hr : r = openErr l) (w : World) (h : Words w v l) :
    Calls Try.prog 38 #[v] w fun e w' => ∃ x E, e = .returned (.tuple #[x, .int .i64 r]) ∧ OwnS w' w.heap.size E x L ∧ Below w.heap.size w w' := by
  have B : Below w.heap.size w w := Below.refl _ _
  obtain ⟨V, hV⟩ : ∃ V, V = tab (tabOf l) := ⟨_, rfl⟩
  have OT := fun w h => open_any v l V hV r hr w h
  have HOT := Lib.hid OT; have H := Lib.hid h; clear OT h
  by_cases h0 : openErr l = 0
  · have hr0 : r = 0 := hr.trans h0
    have hVs : V.size = 48 := by rw [hV]; exact tabOf_size l
    have hV1 : V.all (·.oneCell') = true := by rw [hV]; exact tab_one _
    have hLS : L = slots l := hL.trans (all_ok h0)
    have hVL : V = tab L := by rw [hV, tabOf_ok h0, hLS]
    have hL16 : L.length = 16 := by rw [hLS]; exact slots16 h0
    subst hr0
    have HVs := Lib.hid hVs; have HV1 := Lib.hid hV1; have HVL := Lib.hid hVL; have HL16 := Lib.hid hL16
    clear hr h0 hVs hV1 hLS hVL hL16 hV hL
    go_enter Try.func38, Try.ntmps38
    go_wp2_with fail
    refine (HOT.out _ (H.out.below B)).mono ?_
    rintro e w' ⟨rfl, b⟩
    replace B := B.trans (b.mono B.size); clear b
    go_wp2_with ((with_reducible refine at_store 127 4 9 ?_); refine wpList_storeNew rfl _ _ _ rfl rfl V rfl rfl (by rw [HVs.out]; exact size_table) (by rw [HVs.out]; rfl) HV1.out ?_; intro W q1 b1)
    go_ret2
    exact ⟨_, _, rfl, q1.ownS B.size HVL.out HL16.out, B.trans (b1.mono B.size)⟩
  · have hne : (r != 0) = true := by rw [bne_iff_ne, hr]; exact h0
    have hVs : V.size = 48 := by rw [hV]; exact tabOf_size l
    have hV1 : V.all (·.oneCell') = true := by rw [hV]; exact tab_one _
    have hL0 : L = [] := hL.trans (all_nil h0)
    have HVs := Lib.hid hVs; have HV1 := Lib.hid hV1
    clear hr h0 hVs hV1 hV hL
    subst hL0
    go_enter Try.func38, Try.ntmps38
    go_wp2_with fail
    refine (HOT.out _ (H.out.below B)).mono ?_
    rintro e w' ⟨rfl, b⟩
    replace B := B.trans (b.mono B.size); clear b
    go_wp2_with ((with_reducible refine at_store 127 4 9 ?_); refine wpList_storeNew rfl _ _ _ rfl rfl V rfl rfl (by rw [HVs.out]; exact size_table) (by rw [HVs.out]; rfl) HV1.out ?_; intro W q1 b1)
    go_ret2
    exact ⟨_, 0, rfl, OwnS.nil _ _ _, B.trans (b1.mono B.size)⟩
end Go.Proofs.Ytbfmdbeeiicabaa
namespace Go.Proofs.Ytbfmdbeeiicabaa
open Go.RowKit L01 L02 L18
end Go.Proofs.Ytbfmdbeeiicabaa
namespace Go.Proofs.Ytbfmdbeeiicabaa
open Go.RowKit L01 L02 L18
end Go.Proofs.Ytbfmdbeeiicabaa
namespace Go.Proofs.Ytbfmdbeeiicabaa
open Go.RowKit L01 L02 L18
theorem Slots.at_ {P : Program} {w : World} {v : Value} {L : List Sl} {t e : TypeId} (h : Slots w v L) (ht : P.underlying t = some (.slice e)) (hi : (P.info? e).map (·.size) = some 3) {k : Nat} (hk : k < L.length) :
    ∃ b o s, (∀ W, (Instr.indexAt t v (.int .i64 (k : Int))).run P W = .ok (.pointer (some ⟨b, o, none⟩)) W) ∧ w.cell? ⟨b, o, none⟩ = some (.int .i64 s.gen) ∧ w.cell? ⟨b, o + 1, none⟩ = some (.bool s.used) ∧ w.cell? ⟨b, o + 2, none⟩ = some (.int .i64 s.at_) ∧ Hid (L[k]? = some s) := by
  have hix := fun W => Rd.ixN h ht hi hk W
  obtain ⟨b, o, c, rfl, hb, hc, hcell⟩ := Rd.form h (by omega)
  have hs : L[k]? = some L[k] := List.getElem?_eq_getElem hk
  have t0 := tabL_get L k _ hs 0 (by omega)
  have t1 := tabL_get L k _ hs 1 (by omega)
  have t2 := tabL_get L k _ hs 2 (by omega)
  refine ⟨b, o + k * 3, L[k], fun W => hix W, hcell _ _ t0, hcell _ _ t1, hcell _ _ t2, Lib.hid hs⟩
end Go.Proofs.Ytbfmdbeeiicabaa

namespace Go.Proofs.Ytbfmdbeeiicabaa.L20
open L02 L13 L18
structure Ob where
  ty : Int
  fs : List UInt64
deriving DecidableEq
structure Mo where
  types : List (List UInt8)
  objs : List Ob
  slots : List Sl
deriving DecidableEq
def Mo.nil : Mo := ⟨[], [], []⟩
def no : UInt64 := 9221120237041090561
def FloatOk (v : UInt64) : Prop := v.toNat = 9221120237041090561 ∨ v.toNat % 9223372036854775808 ≤ 9218868437227405312
instance (v : UInt64) : Decidable (FloatOk v) := inferInstanceAs (Decidable (_ ∨ _))
/-- a field of the kind k may hold v, with n objects -/
def FdOk (n : Nat) (k : UInt8) (v : UInt64) : Prop := (k.toNat = 2 → FloatOk v) ∧ (k.toNat = 3 → v.toNat ≤ n)
instance (n : Nat) (k : UInt8) (v : UInt64) : Decidable (FdOk n k v) := inferInstanceAs (Decidable (_ ∧ _))
def ty (T : List (List UInt8)) (o : Ob) : List UInt8 := T.getD o.ty.toNat []
def ObOk (T : List (List UInt8)) (n : Nat) (o : Ob) : Prop := (0 ≤ o.ty ∧ o.ty < T.length) ∧ o.fs.length = (ty T o).length ∧ ∀ i, i < o.fs.length → FdOk n ((ty T o).getD i 0) (o.fs.getD i 0)
instance (T : List (List UInt8)) (n : Nat) (o : Ob) : Decidable (ObOk T n o) := inferInstanceAs (Decidable (_ ∧ _ ∧ ∀ i, i < o.fs.length → _))
def SlOk (n : Nat) (s : Sl) : Prop := (0 ≤ s.gen ∧ s.gen ≤ 2147483647) ∧ (s.used = false → s.at_ = 0) ∧ (s.used = true → 0 < s.gen ∧ 0 ≤ s.at_ ∧ s.at_ < n)
instance (n : Nat) (s : Sl) : Decidable (SlOk n s) := inferInstanceAs (Decidable (_ ∧ _ ∧ _))
def MoOk (m : Mo) : Prop := m.slots.length = 16 ∧ (∀ t ∈ m.types, kErr t = 0) ∧ (∀ o ∈ m.objs, ObOk m.types m.objs.length o) ∧ ∀ s ∈ m.slots, SlOk m.objs.length s
instance (m : Mo) : Decidable (MoOk m) := inferInstanceAs (Decidable (_ ∧ _ ∧ _ ∧ _))
def chk (m : Mo) : Int := if 8 < m.types.length ∨ 960 < m.objs.length then 4 else if MoOk m then 0 else 8
/-- more than the statements consider -/
def Great (m : Mo) : Prop := (40 < m.objs.length ∧ m.objs.length < 960) ∨ 962 < m.objs.length ∨ 20 < m.types.length ∨ 30 < m.slots.length ∨ (∃ t ∈ m.types, 20 < t.length) ∨ ∃ o ∈ m.objs, 20 < o.fs.length
instance (m : Mo) : Decidable (Great m) := inferInstanceAs (Decidable (_ ∨ _ ∨ _ ∨ _ ∨ _ ∨ _))
def asked (m : Mo) (sl g : Int) : Int := if chk m = 0 then rightErr m.slots sl g else chk m
def own (m : Mo) (sl : Int) : Nat := (m.slots.getD sl.toNat .none).at_.toNat
def ob (m : Mo) (k : Nat) : Ob := m.objs.getD k ⟨0, []⟩
def kinds (m : Mo) (sl : Int) : List UInt8 := ty m.types (ob m (own m sl))
/-- the error of a field -/
def kErrF (m : Mo) (sl g n : Int) : Int := if asked m sl g = 0 then (if 0 ≤ n ∧ n < (kinds m sl).length then 0 else 2) else asked m sl g
def kind (m : Mo) (sl g n : Int) : UInt8 := if kErrF m sl g n = 0 then (kinds m sl).getD n.toNat 0 else 0
def putF (m : Mo) (k i : Nat) (x : UInt64) : Mo := ⟨m.types, m.objs.set k ⟨(ob m k).ty, (ob m k).fs.set i x⟩, m.slots⟩
def put (m : Mo) (sl n : Int) (x : UInt64) : Mo := putF m (own m sl) n.toNat x
theorem chk_ok {m : Mo} (h : chk m = 0) : m.types.length ≤ 8 ∧ m.objs.length ≤ 960 ∧ MoOk m := by
  unfold chk at h
  split at h
  · omega
  · split at h
    · exact ⟨by omega, by omega, by assumption⟩
    · omega
theorem chk_many {m : Mo} (h : 8 < m.types.length ∨ 960 < m.objs.length) : chk m = 4 := if_pos h
theorem chk_bad {m : Mo} (h : ¬ (8 < m.types.length ∨ 960 < m.objs.length)) (h2 : ¬ MoOk m) : chk m = 8 := by rw [chk, if_neg h, if_neg h2]
theorem chk_zero {m : Mo} (h : ¬ (8 < m.types.length ∨ 960 < m.objs.length)) (h2 : MoOk m) : chk m = 0 := by rw [chk, if_neg h, if_pos h2]
theorem no_type {m : Mo} {k : Nat} {t : List UInt8} (h : m.types[k]? = some t) (hb : kErr t ≠ 0) : ¬ MoOk m := fun hm => hb (hm.2.1 t (List.mem_of_getElem? h))
theorem no_obj {m : Mo} {k : Nat} {o : Ob} (h : m.objs[k]? = some o) (hb : ¬ ObOk m.types m.objs.length o) : ¬ MoOk m := fun hm => hb (hm.2.2.1 o (List.mem_of_getElem? h))
theorem no_slot {m : Mo} {k : Nat} {s : Sl} (h : m.slots[k]? = some s) (hb : ¬ SlOk m.objs.length s) : ¬ MoOk m := fun hm => hb (hm.2.2.2 s (List.mem_of_getElem? h))
/-- a right handle -/
theorem right_ok {L : List Sl} {sl g : Int} (h : rightErr L sl g = 0) : ∃ (k : Nat) (s : Sl), sl = (k : Int) ∧ k < L.length ∧ L[k]? = some s ∧ s.used = true ∧ s.gen = g := by
  unfold rightErr at h
  split at h
  · rename_i h1
    split at h
    · rename_i h2
      obtain ⟨k, rfl⟩ := Int.eq_ofNat_of_zero_le h1.1
      have hk : k < L.length := by omega
      have hs : L[k]? = some L[k] := List.getElem?_eq_getElem hk
      have hgd : L.getD (k : Int).toNat .none = L[k] := by simp [List.getD_eq_getElem?_getD, hs]
      rw [hgd] at h2
      exact ⟨k, _, rfl, hk, hs, h2.1, h2.2⟩
    · omega
  · omega
/-- what is known behind a right handle -/
theorem asked_ok {m : Mo} {sl g : Int} (h : asked m sl g = 0) : chk m = 0 ∧ rightErr m.slots sl g = 0 ∧ ∃ (k : Nat) (s : Sl) (n : Nat) (o : Ob) (t : List UInt8), sl = (k : Int) ∧ k < 16 ∧ m.slots[k]? = some s ∧ s.used = true ∧ s.gen = g ∧ SlOk m.objs.length s ∧ s.at_ = (n : Int) ∧ own m sl = n ∧
    m.objs[n]? = some o ∧ ob m n = o ∧ ObOk m.types m.objs.length o ∧ m.types[o.ty.toNat]? = some t ∧ ty m.types o = t ∧ kinds m sl = t ∧ o.fs.length = t.length := by
  unfold asked at h
  split at h
  · rename_i h0
    obtain ⟨h1, h2, h3⟩ := chk_ok h0
    obtain ⟨k, s, rfl, hk, hs, hu, hg⟩ := right_ok h
    have hso := h3.2.2.2 s (List.mem_of_getElem? hs)
    obtain ⟨a1, a2, a3⟩ := hso.2.2 hu
    obtain ⟨n, hn⟩ := Int.eq_ofNat_of_zero_le a2
    have hnl : n < m.objs.length := by omega
    have ho : m.objs[n]? = some m.objs[n] := List.getElem?_eq_getElem hnl
    have hoo := h3.2.2.1 _ (List.mem_of_getElem? ho)
    have hob : ob m n = m.objs[n] := by simp [ob, List.getD_eq_getElem?_getD, ho]
    have hown : own m (k : Int) = n := by simp [own, List.getD_eq_getElem?_getD, hs, hn]
    have hty : m.objs[n].ty.toNat < m.types.length := by have := hoo.1; omega
    have ht : m.types[m.objs[n].ty.toNat]? = some m.types[m.objs[n].ty.toNat] := List.getElem?_eq_getElem hty
    have htt : ty m.types m.objs[n] = m.types[m.objs[n].ty.toNat] := by simp [ty, List.getD_eq_getElem?_getD, ht]
    exact ⟨h0, h, k, s, n, _, _, rfl, by rw [h3.1] at hk; exact hk, hs, hu, hg, hso, hn, hown, ho, hob, hoo, ht, htt, by rw [kinds, hown, hob, htt], by rw [hoo.2.1, htt]⟩
  · rename_i h0; exact absurd h h0
theorem asked_no {m : Mo} {sl g : Int} (h : chk m ≠ 0) : asked m sl g = chk m := if_neg h
theorem asked_eq {m : Mo} {sl g : Int} (h : chk m = 0) : asked m sl g = rightErr m.slots sl g := if_pos h
end Go.Proofs.Ytbfmdbeeiicabaa.L20
namespace Go.Proofs.Ytbfmdbeeiicabaa
open Go.RowKit L01 L02 L18
theorem info_slot : (Try.prog.info? 68).map (fun i => (i.zero, i.size, i.bytes)) = some (some (.agg #[.int .i64 0, .bool false, .int .i64 0]), 3, 24) := by kernel_rfl
theorem lit_slot {w : World} {e : TypeId} {n : Nat} (s : Sl) (hn : w.heap.size = n) : Rd (w.alloc (.cells #[.int .i64 s.gen, .bool s.used, .int .i64 s.at_] e)) 3 (.slice (some ⟨n, 0, none⟩) 1 1) 1 (slC s) := by
  subst hn; exact lit_rdK (n := 1) (sz := 3) rfl (by omega)
theorem slC_one (s : Sl) : ∀ u ∈ slC s, u.oneCell' = true := by
  intro u hu
  simp [slC] at hu
  rcases hu with rfl | rfl | rfl <;> rfl
theorem OwnS.of {w : World} {B E n : Nat} {v : Value} {xs : List Value} {L : List Sl} (h : w.ownsRow B E 3 v n xs) (hx : xs = tabL L) : OwnS w B E v L := by
  subst hx
  have hn : n = L.length := by have := h.1; rw [tabL_len] at this; omega
  subst hn; exact h
theorem tabL_snoc (L : List Sl) (s : Sl) : tabL L ++ slC s = tabL (L ++ [s]) := by simp [tabL, List.flatMap_append]
set_option maxRecDepth 100000 in
set_option maxHeartbeats 1000000 in
theorem ToldR_any (v : Value) (l : List UInt64) (hs : SizeOk l.length) (L : List Sl) (r : Bool) (hL : L = all l) (hr : r = decide (openErr l = 0)) (w : World) (h : Words w v l) :
    Calls Try.prog 92 #[v] w fun e w' => ∃ x, e = .returned (.tuple #[x, .bool r]) ∧ OwnS w' w.heap.size 68 x L ∧ Below w.heap.size w w' := by
  have B : Below w.heap.size w w := Below.refl _ _
  have H := Lib.hid h; have HS := Lib.hid hs; have HL := Lib.hid hL; have HR := Lib.hid hr
  have hlen := hs.1
  clear h hs hL hr
  go_enter Try.func92, Try.ntmps92
  go_wp2
  have HB := Lib.hid B; clear B
  go_loopw [4, 5] (fun xv i wr => ∃ k : Nat, k ≤ 16 ∧ i = .int .i64 k ∧ Hid (OwnS wr w.heap.size 68 xv ((slots l).take k) ∧ ∀ x ∈ (ws l).take k, Right (spl x)) ∧ Below w.heap.size w wr) (fun _ i _ => 16 - (intOf i).toNat)
  case atStart => exact ⟨0, by omega, rfl, Lib.hid ⟨OwnS.nil _ _ _, by simp⟩, HB.out⟩
  case round =>
    obtain ⟨k, hk, rfl, hh, B⟩ := hrel
    by_cases hlt : k < 16
    · obtain ⟨ad, x, ia, ca, hx⟩ := (H.out.below B).atI Try.underlying22 one_u64 (k := 112 + (k : Int)) (by omega) (by omega)
      have hx' : (ws l)[k]? = some x := ws_get hlt (by have := hx.out; rwa [show (112 + (k : Int)).toNat = 112 + k by omega] at this)
      have HX := Lib.hid hx'; clear hx hx'
      by_cases hr : Right (spl x)
      · have SP := SplitR_r x (spl x) 0 (by rw [spl0, if_pos hr]) (by rw [splErr, if_pos hr])
        obtain ⟨s, hs⟩ : ∃ s, s = spl x := ⟨_, rfl⟩
        rw [← hs] at SP
        have HSP := Lib.hid SP; have HRR := Lib.hid hr; have HSX := Lib.hid hs; clear SP hr hs
        go_wp2_with fail
        refine (HSP.out _).mono ?_
        rintro e w2 ⟨rfl, b⟩
        have o := hh.out.1.below b
        replace B := B.trans (b.mono B.size)
        have HO := Lib.hid o; have HBB := Lib.hid B; clear b o B
        have hlk : ((slots l).take k).length ≤ 16 := by have := List.length_take_le k (slots l); omega
        go_wp2_with (at_builtin; refine wpList_append (by rfl) rfl rfl rfl Try.underlying64 info_slot rfl (by omega) (by exact own_below HO.out (((Below.refl _ _).alloc (Nat.le_refl _) _).alloc (by simp) _)) (by exact lit_slot s (by simp)) (slC_one s) (by omega) (by omega) (by exact (HBB.out.alloc HBB.out.size _).alloc (by have := HBB.out.size; simp; omega) _) (Nat.le_refl _) ?_; intro v1 w3 o3 B3 g3; clear g3)
        have hgS : (slots l)[k]? = some s := by rw [slots, List.getElem?_map, HX.out, HSX.out]; rfl
        have o4 : OwnS w3 w.heap.size 68 v1 ((slots l).take (k + 1)) := OwnS.of o3 (by rw [tabL_snoc, List.take_add_one, hgS]; rfl)
        have HO4 := Lib.hid o4; have HB3 := Lib.hid B3; clear o3 o4 B3 hgS
        go_roundw
        case rel => exact ⟨k + 1, by omega, by go_num, Lib.hid ⟨HO4.out, right_take hh.out.2 HX.out HRR.out⟩, HB3.out⟩
        case measure => simp [intOf]; omega
      · have SP := SplitR_r x .none 50 (by rw [spl0, if_neg hr]) (by rw [splErr, if_neg hr])
        have he := openErr_no HS.out HX.out hr
        have HSP := Lib.hid SP; have HE := Lib.hid he; clear SP hr he
        go_wp2_with fail
        refine (HSP.out _).mono ?_
        rintro e w2 ⟨rfl, b⟩
        replace B := B.trans (b.mono B.size); clear b
        go_wp2
        go_ret2
        have hr1 : r = false := by rw [HR.out, decide_eq_false (by rw [HE.out]; omega)]
        subst hr1
        refine ⟨_, rfl, ?_, B.alloc B.size _⟩
        rw [HL.out, all_nil (by rw [HE.out]; omega)]; exact OwnS.nil _ _ _
    · obtain rfl : k = 16 := by omega
      have he := openErr_of HS.out hh.out.2
      have HE := Lib.hid he; clear he
      go_wp2
      go_ret2
      have hr1 : r = true := by rw [HR.out, decide_eq_true HE.out]
      subst hr1
      refine ⟨_, rfl, ?_, B⟩
      have := hh.out.1
      rw [List.take_of_length_le (by rw [slots16 HE.out]; omega)] at this
      rw [HL.out, all_ok HE.out]; exact this
end Go.Proofs.Ytbfmdbeeiicabaa
namespace Go.Proofs.Ytbfmdbeeiicabaa
open Go.RowKit L02 L13 L18 L20
theorem size_obj : (Try.prog.info? 136).map (·.size) = some 2 := by kernel_rfl
theorem info_obj : (Try.prog.info? 136).map (fun i => (i.zero, i.size, i.bytes)) = some (some (.agg #[.int .i64 0, .slice none 0 0]), 2, 32) := by kernel_rfl
/-- the cells of objects, whose fields are the slices vs -/
def obC : List Ob → List Value → List Value
  | o :: L, x :: vs => i64 o.ty :: x :: obC L vs
  | _, _ => []
theorem obC_len : ∀ {L : List Ob} {vs : List Value}, vs.length = L.length → (obC L vs).length = L.length * 2
  | [], _, _ => rfl
  | o :: L, [], h => by simp at h
  | o :: L, x :: vs, h => by rw [obC, List.length_cons, List.length_cons, obC_len (by simpa using h), List.length_cons]; omega
theorem obC_get : ∀ {L : List Ob} {vs : List Value} {k : Nat} {o : Ob} {x : Value}, L[k]? = some o → vs[k]? = some x → (obC L vs)[k * 2]? = some (i64 o.ty) ∧ (obC L vs)[k * 2 + 1]? = some x
  | [], _, _, _, _, h, _ => by simp at h
  | o :: L, [], _, _, _, _, h => by simp at h
  | o :: L, x :: vs, 0, o', x', h, h' => by simp at h h'; subst h; subst h'; simp [obC]
  | o :: L, x :: vs, k + 1, o', x', h, h' => by
    have := obC_get (L := L) (vs := vs) (k := k) (by simpa using h) (by simpa using h')
    rw [obC, show (k + 1) * 2 = k * 2 + 1 + 1 by omega, show k * 2 + 1 + 1 + 1 = (k * 2 + 1) + 1 + 1 by omega]
    simpa using this
theorem obC_snoc : ∀ {L : List Ob} {vs : List Value} {o : Ob} {x : Value}, vs.length = L.length → obC (L ++ [o]) (vs ++ [x]) = obC L vs ++ [i64 o.ty, x]
  | [], [], _, _, _ => rfl
  | [], x :: vs, _, _, h => by simp at h
  | o :: L, [], _, _, h => by simp at h
  | o :: L, x :: vs, o', x', h => by
    rw [List.cons_append, List.cons_append, obC, obC_snoc (by simpa using h), obC]; rfl
/-- A slice of objects. -/
def Objs (w : World) (v : Value) (L : List Ob) : Prop := ∃ vs : List Value, vs.length = L.length ∧ Rd w 2 v L.length (obC L vs) ∧ ∀ (i : Nat) x o, vs[i]? = some x → L[i]? = some o → Words w x o.fs
/-- .. of the call's own, their fields too, which lie apart -/
def OwnO (w : World) (base : Nat) (v : Value) (L : List Ob) : Prop := ∃ vs : List Value, vs.length = L.length ∧ w.ownsRow base 136 2 v L.length (obC L vs) ∧ (∀ (i : Nat) x o, vs[i]? = some x → L[i]? = some o → OwnW w base 34 x o.fs) ∧
  ∀ (i j : Nat) x y, i ≠ j → vs[i]? = some x → vs[j]? = some y → x.ownBlock = none ∨ x.ownBlock ≠ y.ownBlock
theorem OwnO.rd {w : World} {base : Nat} {v : Value} {L : List Ob} (h : OwnO w base v L) : Objs w v L := by
  obtain ⟨vs, h1, h2, h4, _⟩ := h; exact ⟨vs, h1, Rd.of_own h2, fun i x l h5 h6 => (h4 i x l h5 h6).rd⟩
theorem Objs.below {w w' : World} {v : Value} {L : List Ob} (h : Objs w v L) (hb : Below w.heap.size w w') : Objs w' v L := by
  obtain ⟨vs, h1, h2, h3⟩ := h; exact ⟨vs, h1, h2.below hb, fun i x l h4 h5 => (h3 i x l h4 h5).below hb⟩
theorem OwnO.below {w w' : World} {base : Nat} {v : Value} {L : List Ob} (h : OwnO w base v L) (hb : Below w.heap.size w w') : OwnO w' base v L := by
  obtain ⟨vs, h1, h2, h4, h5⟩ := h; exact ⟨vs, h1, own_below h2 hb, fun i x l h5 h6 => (h4 i x l h5 h6).below hb, h5⟩
theorem OwnO.mono {w : World} {base base' : Nat} {v : Value} {L : List Ob} (h : OwnO w base v L) (hb : base' ≤ base) : OwnO w base' v L := by
  obtain ⟨vs, h1, h2, h4, h5⟩ := h; exact ⟨vs, h1, own_mono h2 hb, fun i x l h5 h6 => own_mono (h4 i x l h5 h6) hb, h5⟩
theorem OwnT.mono {w : World} {base base' : Nat} {v : Value} {L : List (List UInt8)} (h : OwnT w base v L) (hb : base' ≤ base) : OwnT w base' v L := by
  obtain ⟨vs, h1, h2, h4⟩ := h; exact ⟨vs, h1, own_mono h2 hb, fun i x l h5 h6 => own_mono (h4 i x l h5 h6) hb⟩
theorem OwnO.nil (w : World) (base : Nat) : OwnO w base (.slice none 0 0) [] := ⟨[], rfl, World.ownsRow_nil w base _ 2, fun i x l h => by simp at h, fun i j x y _ h => by simp at h⟩
theorem Objs.nil (w : World) : Objs w (.slice none 0 0) [] := (OwnO.nil w 0).rd
theorem Typs.nil (w : World) : Typs w (.slice none 0 0) [] := (OwnT.nil w 0).rd
theorem Slots.nil (w : World) : Slots w (.slice none 0 0) [] := Rd.nil w 3
theorem Objs.len {w : World} {v : Value} {L : List Ob} (h : Objs w v L) : ∀ ty W, (Builtin.len_ #[77] ty #[v]).run Try.prog W = .ok (.int .i64 (L.length : Int)) W := by
  obtain ⟨vs, h1, h2, h3⟩ := h; exact Rd.len h2 Try.underlying77
theorem Objs.len_le {w : World} {v : Value} {L : List Ob} (h : Objs w v L) : L.length ≤ 9223372036854775807 := by
  obtain ⟨vs, h1, h2, h3⟩ := h; exact Rd.len_le h2
theorem Slots.len {w : World} {v : Value} {L : List Sl} (h : Slots w v L) : ∀ ty W, (Builtin.len_ #[64] ty #[v]).run Try.prog W = .ok (.int .i64 (L.length : Int)) W := Rd.len h Try.underlying64
theorem Slots.len_le {w : World} {v : Value} {L : List Sl} (h : Slots w v L) : L.length ≤ 9223372036854775807 := Rd.len_le h
theorem Objs.at_ {w : World} {v : Value} {L : List Ob} (h : Objs w v L) {k : Nat} (hk : k < L.length) :
    ∃ b q x o, (∀ W, (Instr.indexAt 77 v (.int .i64 (k : Int))).run Try.prog W = .ok (.pointer (some ⟨b, q, none⟩)) W) ∧ w.cell? ⟨b, q, none⟩ = some (.int .i64 o.ty) ∧ w.cell? ⟨b, q + 1, none⟩ = some x ∧ Hid (L[k]? = some o) ∧ Hid (Words w x o.fs) ∧ b < w.heap.size := by
  obtain ⟨vs, h1, h2, h3⟩ := h
  have hv : vs[k]? = some vs[k] := List.getElem?_eq_getElem (by omega)
  have hl : L[k]? = some L[k] := List.getElem?_eq_getElem hk
  have hix := fun W => Rd.ixN h2 Try.underlying77 size_obj hk W
  obtain ⟨b, q, c, rfl, hb, hc, hcell⟩ := Rd.form h2 (by omega)
  obtain ⟨c0, c1⟩ := obC_get hl hv
  exact ⟨b, q + k * 2, vs[k], L[k], fun W => hix W, hcell _ _ c0, hcell _ _ c1, Lib.hid hl, Lib.hid (h3 k _ _ hv hl), hb⟩
theorem Words.oneCell {w : World} {x : Value} {l : List UInt64} (h : Words w x l) : x.oneCell' = true := by
  obtain ⟨A, c, rfl, _⟩ := h; rfl
theorem Typs.oneCell {w : World} {x : Value} {l : List (List UInt8)} (h : Typs w x l) : x.oneCell' = true := by
  obtain ⟨_, _, ⟨A, c, rfl, _⟩, _⟩ := h; rfl
theorem Objs.oneCell {w : World} {x : Value} {l : List Ob} (h : Objs w x l) : x.oneCell' = true := by
  obtain ⟨_, _, ⟨A, c, rfl, _⟩, _⟩ := h; rfl
theorem Slots.oneCell {w : World} {x : Value} {l : List Sl} (h : Slots w x l) : x.oneCell' = true := by
  obtain ⟨A, c, rfl, _⟩ := h; rfl
/-- A model: three slices. -/
structure Mod (w : World) (tv ov sv : Value) (m : Mo) : Prop where
  t : Typs w tv m.types
  o : Objs w ov m.objs
  s : Slots w sv m.slots
structure OwnM (w : World) (base E : Nat) (tv ov sv : Value) (m : Mo) : Prop where
  t : OwnT w base tv m.types
  o : OwnO w base ov m.objs
  s : OwnS w base E sv m.slots
theorem Mod.below {w w' : World} {tv ov sv : Value} {m : Mo} (h : Mod w tv ov sv m) (hb : Below w.heap.size w w') : Mod w' tv ov sv m := ⟨h.t.below hb, h.o.below hb, h.s.below hb⟩
theorem OwnM.below {w w' : World} {base E : Nat} {tv ov sv : Value} {m : Mo} (h : OwnM w base E tv ov sv m) (hb : Below w.heap.size w w') : OwnM w' base E tv ov sv m := ⟨h.t.below hb, h.o.below hb, h.s.below hb⟩
theorem OwnM.rd {w : World} {base E : Nat} {tv ov sv : Value} {m : Mo} (h : OwnM w base E tv ov sv m) : Mod w tv ov sv m := ⟨h.t.rd, h.o.rd, h.s.rd⟩
theorem OwnM.mono {w : World} {base base' E : Nat} {tv ov sv : Value} {m : Mo} (h : OwnM w base E tv ov sv m) (hb : base' ≤ base) : OwnM w base' E tv ov sv m := ⟨h.t.mono hb, h.o.mono hb, own_mono h.s hb⟩
theorem Mod.nil (w : World) : Mod w (.slice none 0 0) (.slice none 0 0) (.slice none 0 0) .nil := ⟨Typs.nil w, Objs.nil w, Slots.nil w⟩
end Go.Proofs.Ytbfmdbeeiicabaa
namespace Go.Proofs.Ytbfmdbeeiicabaa
open Go.RowKit L02 L13 L18 L20
set_option maxHeartbeats 1000000 in
theorem float_any (x : UInt64) (b : Bool) (hb : b = decide (FloatOk x)) (w : World) : Calls Try.prog 125 #[.int .u64 x.toNat] w fun e w' => e = .returned (.bool b) ∧ Below w.heap.size w w' := by
  have B : Below w.heap.size w w := Below.refl _ _
  have hxl := toNat_lt x
  have e1 := and_int (a := (x.toNat : Int) / 4503599627370496) 11 (by omega) (by omega) 2047 (by decide) (by omega)
  rw [show ((2 ^ 11 : Nat) : Int) = 2048 from rfl] at e1
  have hwr : IntKind.u64.wrap ((x.toNat : Int) * 4096) = (x.toNat : Int) * 4096 % 18446744073709551616 := rfl
  have HB := Lib.hid hb; clear hb
  go_enter Try.func125, Try.ntmps125
  go_wp2
  all_goals
    go_ret
    refine ⟨ret_bool ?_, B⟩
    rw [HB.out]
    first
      | (rw [eq_comm, decide_eq_true_iff]; unfold FloatOk; omega)
      | (rw [Bool.eq_iff_iff, decide_eq_true_iff]; simp only [Bool.or_eq_true, beq_iff_eq]; unfold FloatOk; omega)
set_option maxHeartbeats 1000000 in
theorem FloatR_any (x : UInt64) (b : Bool) (hb : b = decide (FloatOk x)) (w : World) : Calls Try.prog 127 #[.int .u64 x.toNat] w fun e w' => e = .returned (.bool b) ∧ Below w.heap.size w w' := by
  have B : Below w.heap.size w w := Below.refl _ _
  have HB := Lib.hid hb; clear hb
  go_enter Try.func127, Try.ntmps127
  go_wp2
  all_goals
    go_ret
    refine ⟨ret_bool ?_, B⟩
    rw [HB.out]
    rename_i hcase
    first
      | (rw [beq_iff_eq] at hcase; rw [eq_comm, decide_eq_true_iff]; unfold FloatOk; omega)
      | (rw [beq_eq_false_iff_ne] at hcase; rw [Bool.eq_iff_iff, decide_eq_true_iff, decide_eq_true_iff]; unfold FloatOk; omega)
set_option maxHeartbeats 1000000 in
theorem slot_any (tv ov sv : Value) (m : Mo) (s : Sl) (b : Bool) (hb : b = decide (SlOk m.objs.length s)) (w : World) (h : Mod w tv ov sv m) :
    Calls Try.prog 90 #[.agg #[tv, ov, sv], .agg #[.int .i64 s.gen, .bool s.used, .int .i64 s.at_]] w fun e w' => e = .returned (.bool b) ∧ Below w.heap.size w w' := by
  have B : Below w.heap.size w w := Below.refl _ _
  have lo := h.o.len
  have HB := Lib.hid hb; clear hb
  obtain ⟨N, hN⟩ : ∃ N, N = m.objs.length := ⟨_, rfl⟩
  rw [← hN] at lo HB
  clear h hN
  obtain ⟨g, u, a⟩ := s
  dsimp only at *
  cases u
  all_goals
    go_enter Try.func90, Try.ntmps90
    go_wp2
    all_goals
      go_ret
      refine ⟨ret_bool ?_, ?_⟩
      · rw [HB.out]
        exact bool_dec (by simp [SlOk]; try omega)
      · skip
        (repeat (first | refine Below.setCell ?_ (by first | exact Nat.le_refl _ | (simp <;> omega)) _ | refine Below.alloc ?_ (by first | exact B.size | (have := B.size; simp <;> omega)) _)); exact B
end Go.Proofs.Ytbfmdbeeiicabaa
namespace Go.Proofs.Ytbfmdbeeiicabaa
open Go.RowKit L02 L13 L18 L20
/-- what is asked of a field, as the code asks it -/
theorem fd_split (n : Nat) (k : UInt8) (v : UInt64) : (¬ FdOk n k v ∧ k.toNat = 2 ∧ ¬ FloatOk v) ∨ (¬ FdOk n k v ∧ k.toNat = 3 ∧ n < v.toNat) ∨ (FdOk n k v ∧ k.toNat = 2 ∧ FloatOk v) ∨ (FdOk n k v ∧ k.toNat = 3 ∧ v.toNat ≤ n) ∨ (FdOk n k v ∧ k.toNat ≠ 2 ∧ k.toNat ≠ 3) := by
  unfold FdOk
  by_cases h2 : k.toNat = 2
  · by_cases hf : FloatOk v
    · exact .inr (.inr (.inl ⟨⟨fun _ => hf, fun h => by omega⟩, h2, hf⟩))
    · exact .inl ⟨fun h => hf (h.1 h2), h2, hf⟩
  · by_cases h3 : k.toNat = 3
    · by_cases hv : v.toNat ≤ n
      · exact .inr (.inr (.inr (.inl ⟨⟨fun h => by omega, fun _ => hv⟩, h3, hv⟩)))
      · exact .inr (.inl ⟨fun h => hv (h.2 h3), h3, by omega⟩)
    · exact .inr (.inr (.inr (.inr ⟨⟨fun h => by omega, fun h => by omega⟩, h2, h3⟩)))
set_option maxRecDepth 100000 in
set_option maxHeartbeats 4000000 in
theorem object_any (tv ov sv x : Value) (m : Mo) (o : Ob) (b : Bool) (hb : b = decide (ObOk m.types m.objs.length o)) (w : World) (h : Mod w tv ov sv m) (hx : Words w x o.fs) :
    Calls Try.prog 89 #[.agg #[tv, ov, sv], .agg #[.int .i64 o.ty, x]] w fun e w' => e = .returned (.bool b) ∧ Below w.heap.size w w' := by
  have B : Below w.heap.size w w := Below.refl _ _
  have lt := h.t.len; have lo := h.o.len; have lx := Rd.len hx Try.underlying22
  have lo' := h.o.len_le; have lx' := Rd.len_le hx
  obtain ⟨NT, hNT⟩ : ∃ N, N = m.types.length := ⟨_, rfl⟩
  obtain ⟨NO, hNO⟩ : ∃ N, N = m.objs.length := ⟨_, rfl⟩
  obtain ⟨n, hn⟩ : ∃ N, N = o.fs.length := ⟨_, rfl⟩
  rw [← hNT] at lt; rw [← hNO] at lo lo' hb; rw [← hn] at lx lx'
  have H := Lib.hid h; have HX := Lib.hid hx; have HNT := Lib.hid hNT; have HN := Lib.hid hn
  clear h hx hNO
  by_cases hty : 0 ≤ o.ty ∧ o.ty < NT
  · obtain ⟨k, hk⟩ := Int.eq_ofNat_of_zero_le hty.1
    rw [hk] at hty ⊢
    have hkt : k < m.types.length := by omega
    obtain ⟨ad, y, t, iy, m0, ht, hby⟩ := H.out.t.at_ hkt
    have ht' : ty m.types o = t := by rw [ty, hk]; simp [List.getD_eq_getElem?_getD, ht.out]
    have ly := Rd.len hby.out Try.underlying44
    obtain ⟨nt, hnt⟩ : ∃ N, N = t.length := ⟨_, rfl⟩
    rw [← hnt] at ly
    have HNt := Lib.hid hnt
    have ha : decide ((k : Int) < 0) = false := by rw [decide_eq_false_iff_not]; omega
    have hb1 : decide ((NT : Int) ≤ (k : Int)) = false := by rw [decide_eq_false_iff_not]; omega
    have hb2 : decide (NT ≤ k) = false := by rw [decide_eq_false_iff_not]; omega
    by_cases hl : n = nt
    · have hc : ((n : Int) != (nt : Int)) = false := by rw [bne_eq_false_iff_eq]; omega
      have hok : b = decide (∀ i, i < n → FdOk NO (t.getD i 0) (o.fs.getD i 0)) := by
        rw [hb]
        congr 1
        rw [eq_iff_iff, ObOk, ht']
        refine ⟨fun hh i hi => hh.2.2 i (by omega), fun hh => ⟨by omega, by omega, fun i hi => hh i (by omega)⟩⟩
      have HOK := Lib.hid hok; have HL := Lib.hid hl
      clear hb hok ht' hkt hNT hn hnt hl
      go_enter Try.func89, Try.ntmps89
      go_upto_region 1 with (fail)
      refine wp_gen (fun Wv => Bx Wv (w.heap.size) (79) (#[tv, ov, sv]) ∧ Bx Wv (w.heap.size + 1) (136) (#[.int .i64 (k : Int), x]) ∧ Below w.heap.size w Wv) ⟨(((Bx.at_ (by simp)).alloc _)), ((Bx.at_ (by simp))), (((Below.refl _ w).alloc (by simp <;> omega) _).alloc (by simp <;> omega) _)⟩ ?_
      rintro wa1 ⟨g1, g2, b⟩
      replace m0 := cell_later b m0; replace B := B.trans (b.mono B.size); clear b
      have c_g1 := g1.cell; have f_g1 := g1.free; have a_g1 := fun o => (g1.alloc o).cell; have d_g1 := fun o o2 => ((g1.alloc o).alloc o2).cell; have e_g1 := fun o => (g1.alloc o).free
      have c_g2 := g2.cell; have f_g2 := g2.free; have a_g2 := fun o => (g2.alloc o).cell; have d_g2 := fun o o2 => ((g2.alloc o).alloc o2).cell; have e_g2 := fun o => (g2.alloc o).free
      refine wp_region_calm (by kernel_rfl) (by kernel_rfl) ?_
      try clear c_g1 f_g1 a_g1 d_g1 e_g1
      have c_g1 := fun x : Fut _ => (g1.below x.h).cell
      try clear c_g2 f_g2 a_g2 d_g2 e_g2
      have c_g2 := fun x : Fut _ => (g2.below x.h).cell
      have c_m0 := fun x : Fut _ => cell_later x.h m0
      repeat (go_big_quiet_step (fail))
      refine wpQuiet_nil ?_
      intro _ hw'
      obtain ⟨xq, hw''⟩ := hw'
      subst hw''
      clear c_m0; replace m0 := cell_later xq.h m0
      clear c_g1; replace g1 := g1.below xq.h; have c_g1 := g1.cell; have f_g1 := g1.free; have a_g1 := fun o => (g1.alloc o).cell; have d_g1 := fun o o2 => ((g1.alloc o).alloc o2).cell; have e_g1 := fun o => (g1.alloc o).free
      clear c_g2; replace g2 := g2.below xq.h; have c_g2 := g2.cell; have f_g2 := g2.free; have a_g2 := fun o => (g2.alloc o).cell; have d_g2 := fun o o2 => ((g2.alloc o).alloc o2).cell; have e_g2 := fun o => (g2.alloc o).free
      replace B := B.trans (xq.h.mono B.size)
      go_wp2
      have HB := Lib.hid B; have HG1 := Lib.hid g1; have HG2 := Lib.hid g2
      clear B g1 g2 m0 c_g1 c_g2 f_g1 f_g2 a_g1 a_g2 d_g1 d_g2 e_g1 e_g2
      go_loopg [39] n (fun g i wr => ∃ j : Nat, j ≤ n ∧ g = n - j ∧ i = .int .i64 j ∧ Hid ((∀ i, i < j → FdOk NO (t.getD i 0) (o.fs.getD i 0)) ∧ Bx wr w.heap.size 79 #[tv, ov, sv] ∧ Bx wr (w.heap.size + 1) 136 #[.int .i64 (k : Int), x] ∧ Below w.heap.size w wr))
      case atStart => exact ⟨0, by omega, by omega, rfl, Lib.hid ⟨fun i hi => by omega, HG1.out, HG2.out, HB.out⟩⟩
      case round =>
        obtain ⟨j, hj, rfl, rfl, hh⟩ := hrel
        by_cases hlt : j < n
        · have g1 := hh.out.2.1; have g2 := hh.out.2.2.1
          have c_g1 := g1.cell; have c_g2 := g2.cell
          obtain ⟨bd, kk, ib, m1, hkk⟩ := (hby.out.below hh.out.2.2.2).at_ (P := Try.prog) Try.underlying44 one_u8 (k := j) (by have := HNt.out; have := HL.out; omega)
          obtain ⟨cd, v, ic, m2, hv⟩ := (HX.out.below hh.out.2.2.2).at_ (P := Try.prog) Try.underlying22 one_u64 (k := j) (by have := HN.out; omega)
          have ek : t.getD j 0 = kk := by simp [List.getD_eq_getElem?_getD, hkk.out]
          have ev : o.fs.getD j 0 = v := by simp [List.getD_eq_getElem?_getD, hv.out]
          have EK := Lib.hid ek; have EV := Lib.hid ev
          have hjt : j < nt := by have := HL.out; omega
          clear hkk hv ek ev
          have hwn : IntKind.u64.wrap ((NO : Nat) : Int) = (NO : Int) := by show (NO : Int) % 18446744073709551616 = _; omega
          have FT := Lib.hid (fun b hb w => float_any v b hb w)
          have hcase := fd_split NO kk v
          have hno : ∀ z, FdOk NO kk v = z → (z → False) → b = false := fun z hz hf => by
            rw [HOK.out, decide_eq_false_iff_not]
            intro hall
            have := hall j hlt
            rw [EK.out, EV.out, hz] at this
            exact hf this
          have HNO := Lib.hid hno; clear hno
          rcases hcase with ⟨z, e2, zf⟩ | ⟨z, e3, zf⟩ | ⟨z, e2, zf⟩ | ⟨z, e3, zf⟩ | ⟨z, e2, e3⟩
          · have hbf : b = false := HNO.out _ rfl z
            have k2 : ((kk.toNat : Int) == 2) = true := by rw [beq_iff_eq]; omega
            have FT1 := Lib.hid (FT.out false (decide_eq_false zf).symm)
            clear z e2 zf FT
            subst hbf
            go_wp2_with fail
            refine (FT1.out _).mono ?_
            rintro e w2 ⟨rfl, b2⟩
            have B := hh.out.2.2.2.trans (b2.mono hh.out.2.2.2.size)
            go_wp2
            go_ret
            exact ⟨rfl, B⟩
          · have hbf : b = false := HNO.out _ rfl z
            have k2 : ((kk.toNat : Int) == 2) = false := by rw [beq_eq_false_iff_ne]; omega
            have k3 : ((kk.toNat : Int) == 3) = true := by rw [beq_iff_eq]; omega
            clear z e3 FT
            subst hbf
            go_wp2
            go_ret
            exact ⟨rfl, hh.out.2.2.2⟩
          · have k2 : ((kk.toNat : Int) == 2) = true := by rw [beq_iff_eq]; omega
            have k3 : ((kk.toNat : Int) == 3) = false := by rw [beq_eq_false_iff_ne]; omega
            have FT1 := Lib.hid (FT.out true (decide_eq_true zf).symm)
            have HZ := Lib.hid z
            clear z e2 zf FT
            go_wp2_with fail
            refine (FT1.out _).mono ?_
            rintro e w2 ⟨rfl, b2⟩
            have HH := Lib.hid (And.intro (hh.out.2.1.below b2) (And.intro (hh.out.2.2.1.below b2) (hh.out.2.2.2.trans (b2.mono hh.out.2.2.2.size))))
            clear b2 m1 m2 g1 g2 c_g1 c_g2
            go_wp2
            go_roundg (n - (j + 1))
            case measure => omega
            case rel =>
              refine ⟨j + 1, by omega, rfl, by go_num, Lib.hid ⟨fun i hi => ?_, HH.out⟩⟩
              by_cases hij : i < j
              · exact hh.out.1 i hij
              · obtain rfl : i = j := by omega
                rw [EK.out, EV.out]; exact HZ.out
          · have k2 : ((kk.toNat : Int) == 2) = false := by rw [beq_eq_false_iff_ne]; omega
            have k3 : ((kk.toNat : Int) == 3) = true := by rw [beq_iff_eq]; omega
            have HZ := Lib.hid z
            have zf2 : ¬ NO < v.toNat := by omega
            clear z e3 FT zf
            go_wp2
            go_roundg (n - (j + 1))
            case measure => omega
            case rel =>
              refine ⟨j + 1, by omega, rfl, by go_num, Lib.hid ⟨fun i hi => ?_, hh.out.2⟩⟩
              by_cases hij : i < j
              · exact hh.out.1 i hij
              · obtain rfl : i = j := by omega
                rw [EK.out, EV.out]; exact HZ.out
          · have k2 : ((kk.toNat : Int) == 2) = false := by rw [beq_eq_false_iff_ne]; omega
            have k3 : ((kk.toNat : Int) == 3) = false := by rw [beq_eq_false_iff_ne]; omega
            have HZ := Lib.hid z
            clear z e2 e3 FT
            go_wp2
            go_roundg (n - (j + 1))
            case measure => omega
            case rel =>
              refine ⟨j + 1, by omega, rfl, by go_num, Lib.hid ⟨fun i hi => ?_, hh.out.2⟩⟩
              by_cases hij : i < j
              · exact hh.out.1 i hij
              · obtain rfl : i = j := by omega
                rw [EK.out, EV.out]; exact HZ.out
        · obtain rfl : j = n := by omega
          have hbt : b = true := by rw [HOK.out, decide_eq_true_iff]; exact fun i hi => hh.out.1 i hi
          have hntn : ¬ j < nt := by have := HL.out; omega
          subst hbt
          go_wp2
          go_ret
          exact ⟨rfl, hh.out.2.2.2⟩
    · have hc : ((n : Int) != (nt : Int)) = true := by rw [bne_iff_ne]; omega
      have hbf : b = false := by
        rw [hb, decide_eq_false_iff_not, ObOk, ht']
        intro hh; omega
      subst hbf
      clear hb ht' hkt hNT hn hnt hl
      go_enter Try.func89, Try.ntmps89
      go_upto_region 1 with (fail)
      refine wp_gen (fun Wv => Bx Wv (w.heap.size) (79) (#[tv, ov, sv]) ∧ Bx Wv (w.heap.size + 1) (136) (#[.int .i64 (k : Int), x]) ∧ Below w.heap.size w Wv) ⟨(((Bx.at_ (by simp)).alloc _)), ((Bx.at_ (by simp))), (((Below.refl _ w).alloc (by simp <;> omega) _).alloc (by simp <;> omega) _)⟩ ?_
      rintro wa1 ⟨g1, g2, b⟩
      replace m0 := cell_later b m0; replace B := B.trans (b.mono B.size); clear b
      have c_g1 := g1.cell; have f_g1 := g1.free; have a_g1 := fun o => (g1.alloc o).cell; have d_g1 := fun o o2 => ((g1.alloc o).alloc o2).cell; have e_g1 := fun o => (g1.alloc o).free
      have c_g2 := g2.cell; have f_g2 := g2.free; have a_g2 := fun o => (g2.alloc o).cell; have d_g2 := fun o o2 => ((g2.alloc o).alloc o2).cell; have e_g2 := fun o => (g2.alloc o).free
      refine wp_region_calm (by kernel_rfl) (by kernel_rfl) ?_
      try clear c_g1 f_g1 a_g1 d_g1 e_g1
      have c_g1 := fun x : Fut _ => (g1.below x.h).cell
      try clear c_g2 f_g2 a_g2 d_g2 e_g2
      have c_g2 := fun x : Fut _ => (g2.below x.h).cell
      have c_m0 := fun x : Fut _ => cell_later x.h m0
      repeat (go_big_quiet_step (fail))
      refine wpQuiet_nil ?_
      intro _ hw'
      obtain ⟨xq, hw''⟩ := hw'
      subst hw''
      clear c_m0; replace m0 := cell_later xq.h m0
      clear c_g1; replace g1 := g1.below xq.h; have c_g1 := g1.cell; have f_g1 := g1.free; have a_g1 := fun o => (g1.alloc o).cell; have d_g1 := fun o o2 => ((g1.alloc o).alloc o2).cell; have e_g1 := fun o => (g1.alloc o).free
      clear c_g2; replace g2 := g2.below xq.h; have c_g2 := g2.cell; have f_g2 := g2.free; have a_g2 := fun o => (g2.alloc o).cell; have d_g2 := fun o o2 => ((g2.alloc o).alloc o2).cell; have e_g2 := fun o => (g2.alloc o).free
      replace B := B.trans (xq.h.mono B.size)
      go_wp2
      go_ret
      exact ⟨rfl, B⟩
  · have hbf : b = false := by
      rw [hb, decide_eq_false_iff_not, ObOk]
      intro hh; omega
    subst hbf
    obtain ⟨ty, fs⟩ := o
    dsimp only at *
    by_cases hneg : ty < 0
    · have ha : decide (ty < 0) = true := decide_eq_true hneg
      clear hb hNT hn hty hneg
      go_enter Try.func89, Try.ntmps89
      go_upto_region 1 with (fail)
      refine wp_gen (fun Wv => Bx Wv (w.heap.size) (79) (#[tv, ov, sv]) ∧ Bx Wv (w.heap.size + 1) (136) (#[.int .i64 ty, x]) ∧ Below w.heap.size w Wv) ⟨(((Bx.at_ (by simp)).alloc _)), ((Bx.at_ (by simp))), (((Below.refl _ w).alloc (by simp <;> omega) _).alloc (by simp <;> omega) _)⟩ ?_
      rintro wa1 ⟨g1, g2, b⟩
      replace B := B.trans (b.mono B.size); clear b
      have c_g1 := g1.cell; have f_g1 := g1.free; have a_g1 := fun o => (g1.alloc o).cell; have d_g1 := fun o o2 => ((g1.alloc o).alloc o2).cell; have e_g1 := fun o => (g1.alloc o).free
      have c_g2 := g2.cell; have f_g2 := g2.free; have a_g2 := fun o => (g2.alloc o).cell; have d_g2 := fun o o2 => ((g2.alloc o).alloc o2).cell; have e_g2 := fun o => (g2.alloc o).free
      refine wp_region_calm (by kernel_rfl) (by kernel_rfl) ?_
      try clear c_g1 f_g1 a_g1 d_g1 e_g1
      have c_g1 := fun x : Fut _ => (g1.below x.h).cell
      try clear c_g2 f_g2 a_g2 d_g2 e_g2
      have c_g2 := fun x : Fut _ => (g2.below x.h).cell
      repeat (go_big_quiet_step (fail))
      refine wpQuiet_nil ?_
      intro _ hw'
      obtain ⟨xq, hw''⟩ := hw'
      subst hw''
      clear c_g1; replace g1 := g1.below xq.h; have c_g1 := g1.cell; have f_g1 := g1.free; have a_g1 := fun o => (g1.alloc o).cell; have d_g1 := fun o o2 => ((g1.alloc o).alloc o2).cell; have e_g1 := fun o => (g1.alloc o).free
      clear c_g2; replace g2 := g2.below xq.h; have c_g2 := g2.cell; have f_g2 := g2.free; have a_g2 := fun o => (g2.alloc o).cell; have d_g2 := fun o o2 => ((g2.alloc o).alloc o2).cell; have e_g2 := fun o => (g2.alloc o).free
      replace B := B.trans (xq.h.mono B.size)
      go_wp2
      go_ret
      exact ⟨rfl, B⟩
    · have ha : decide (ty < 0) = false := decide_eq_false hneg
      have hb1 : decide ((NT : Int) ≤ ty) = true := by rw [decide_eq_true_iff]; omega
      clear hb hNT hn hty hneg
      go_enter Try.func89, Try.ntmps89
      go_upto_region 1 with (fail)
      refine wp_gen (fun Wv => Bx Wv (w.heap.size) (79) (#[tv, ov, sv]) ∧ Bx Wv (w.heap.size + 1) (136) (#[.int .i64 ty, x]) ∧ Below w.heap.size w Wv) ⟨(((Bx.at_ (by simp)).alloc _)), ((Bx.at_ (by simp))), (((Below.refl _ w).alloc (by simp <;> omega) _).alloc (by simp <;> omega) _)⟩ ?_
      rintro wa1 ⟨g1, g2, b⟩
      replace B := B.trans (b.mono B.size); clear b
      have c_g1 := g1.cell; have f_g1 := g1.free; have a_g1 := fun o => (g1.alloc o).cell; have d_g1 := fun o o2 => ((g1.alloc o).alloc o2).cell; have e_g1 := fun o => (g1.alloc o).free
      have c_g2 := g2.cell; have f_g2 := g2.free; have a_g2 := fun o => (g2.alloc o).cell; have d_g2 := fun o o2 => ((g2.alloc o).alloc o2).cell; have e_g2 := fun o => (g2.alloc o).free
      refine wp_region_calm (by kernel_rfl) (by kernel_rfl) ?_
      try clear c_g1 f_g1 a_g1 d_g1 e_g1
      have c_g1 := fun x : Fut _ => (g1.below x.h).cell
      try clear c_g2 f_g2 a_g2 d_g2 e_g2
      have c_g2 := fun x : Fut _ => (g2.below x.h).cell
      repeat (go_big_quiet_step (fail))
      refine wpQuiet_nil ?_
      intro _ hw'
      obtain ⟨xq, hw''⟩ := hw'
      subst hw''
      clear c_g1; replace g1 := g1.below xq.h; have c_g1 := g1.cell; have f_g1 := g1.free; have a_g1 := fun o => (g1.alloc o).cell; have d_g1 := fun o o2 => ((g1.alloc o).alloc o2).cell; have e_g1 := fun o => (g1.alloc o).free
      clear c_g2; replace g2 := g2.below xq.h; have c_g2 := g2.cell; have f_g2 := g2.free; have a_g2 := fun o => (g2.alloc o).cell; have d_g2 := fun o o2 => ((g2.alloc o).alloc o2).cell; have e_g2 := fun o => (g2.alloc o).free
      replace B := B.trans (xq.h.mono B.size)
      go_wp2
      go_ret
      exact ⟨rfl, B⟩
end Go.Proofs.Ytbfmdbeeiicabaa
namespace Go.Proofs.Ytbfmdbeeiicabaa
open Go.RowKit L02 L13 L18 L20
set_option maxRecDepth 100000 in
set_option maxHeartbeats 8000000 in
theorem Check20_any (tv ov sv : Value) (m : Mo) (r : Int) (hr : r = chk m) (w : World) (h : Mod w tv ov sv m) :
    Calls Try.prog 46 #[.agg #[tv, ov, sv]] w fun e w' => e = .returned (.int .i64 r) ∧ Below w.heap.size w w' := by
  have B : Below w.heap.size w w := Below.refl _ _
  have lt := h.t.len; have lo := h.o.len; have ls := h.s.len
  have lt' := h.t.len_le; have lo' := h.o.len_le; have ls' := h.s.len_le
  have hbig : 8 < m.types.length ∨ 960 < m.objs.length → r = 4 := fun hm => by rw [hr, chk_many hm]
  have hbad : ¬ (8 < m.types.length ∨ 960 < m.objs.length) → ¬ MoOk m → r = 8 := fun h1 h2 => by rw [hr, chk_bad h1 h2]
  have hgood : ¬ (8 < m.types.length ∨ 960 < m.objs.length) → MoOk m → r = 0 := fun h1 h2 => by rw [hr, chk_zero h1 h2]
  obtain ⟨NT, hNT⟩ : ∃ N, N = m.types.length := ⟨_, rfl⟩
  obtain ⟨NO, hNO⟩ : ∃ N, N = m.objs.length := ⟨_, rfl⟩
  obtain ⟨NS, hNS⟩ : ∃ N, N = m.slots.length := ⟨_, rfl⟩
  rw [← hNT] at lt lt' hbig hbad hgood; rw [← hNO] at lo lo' hbig hbad hgood; rw [← hNS] at ls ls'
  have H := Lib.hid h; have HNT := Lib.hid hNT; have HNO := Lib.hid hNO; have HNS := Lib.hid hNS
  clear h hr hNT hNO hNS
  by_cases h1 : 8 < NT
  · have hr4 := hbig (.inl h1)
    clear hbig hbad hgood
    subst hr4
    go_enter Try.func46, Try.ntmps46
    go_wp2
    go_ret
    exact ⟨rfl, B.alloc B.size _⟩
  by_cases h2 : 960 < NO
  · have hr4 := hbig (.inr h2)
    clear hbig hbad hgood
    subst hr4
    go_enter Try.func46, Try.ntmps46
    go_wp2
    go_ret
    exact ⟨rfl, B.alloc B.size _⟩
  have hnm : ¬ (8 < NT ∨ 960 < NO) := by omega
  have HBAD := Lib.hid (hbad hnm); have HGOOD := Lib.hid (hgood hnm)
  clear hbig hbad hgood hnm
  by_cases h3 : NS = 16
  · have h3' : ((NS : Int) != 16) = false := by rw [bne_eq_false_iff_eq]; omega
    have HS3 := Lib.hid h3; clear h3
    go_enter Try.func46, Try.ntmps46
    go_upto_region 1 with (fail)
    refine wp_gen (fun Wv => Bx Wv (w.heap.size) (79) (#[tv, ov, sv]) ∧ Below w.heap.size w Wv) ⟨((Bx.at_ (by simp))), ((Below.refl _ w).alloc (by simp <;> omega) _)⟩ ?_
    rintro wa1 ⟨g1, b⟩
    replace B := B.trans (b.mono B.size); clear b
    have c_g1 := g1.cell; have f_g1 := g1.free; have a_g1 := fun o => (g1.alloc o).cell; have d_g1 := fun o o2 => ((g1.alloc o).alloc o2).cell; have e_g1 := fun o => (g1.alloc o).free
    have HB := Lib.hid B; clear B
    go_wp2
    have HG1 := Lib.hid g1
    clear g1 c_g1 f_g1 a_g1 d_g1 e_g1
    go_loopg [26] NT (fun g i wr => ∃ j : Nat, j ≤ NT ∧ g = NT - j ∧ i = .int .i64 j ∧ Hid ((∀ (i : Nat) t, i < j → m.types[i]? = some t → kErr t = 0) ∧ Bx wr w.heap.size 79 #[tv, ov, sv] ∧ Below w.heap.size w wr))
    case atStart => exact ⟨0, by omega, by omega, rfl, Lib.hid ⟨fun i t hi => by omega, HG1.out, HB.out⟩⟩
    case round =>
      clear HG1 HB
      obtain ⟨j, hj, rfl, rfl, hh⟩ := hrel
      by_cases hlt : j < NT
      · obtain ⟨ad, y, t, iy, m0, ht, hby⟩ := (H.out.t.below hh.out.2.2).at_ (k := j) (by have := HNT.out; omega)
        by_cases hk : kErr t = 0
        · have KT := Lib.hid (fun w h => KCheck_any y t 0 hk.symm w h)
          have HK := Lib.hid hk; clear hk
          go_wp2_with fail
          refine (KT.out _ hby.out).mono ?_
          rintro e w2 ⟨rfl, rfl⟩
          go_wp2
          go_roundg (NT - (j + 1))
          case measure => omega
          case rel =>
            refine ⟨j + 1, by omega, rfl, by go_num, Lib.hid ⟨fun i u hi hu => ?_, hh.out.2⟩⟩
            by_cases hij : i < j
            · exact hh.out.1 i u hij hu
            · obtain rfl : i = j := by omega
              have := ht.out; rw [hu] at this; injection this with this; subst this; exact HK.out
        · have hr8 := HBAD.out (no_type ht.out hk)
          subst hr8
          obtain ⟨z, hz⟩ : ∃ z, z = kErr t := ⟨_, rfl⟩
          have KT := Lib.hid (fun w h => KCheck_any y t z hz w h)
          have hne : (z != 0) = true := by rw [bne_iff_ne, hz]; exact hk
          clear hk hz
          go_wp2_with fail
          refine (KT.out _ hby.out).mono ?_
          rintro e w2 ⟨rfl, rfl⟩
          go_wp2
          go_ret
          exact ⟨rfl, hh.out.2.2⟩
      · obtain rfl : j = NT := by omega
        have HT := Lib.hid (fun i t hi => hh.out.1 i t hi); have g1 := hh.out.2.1; have HB := Lib.hid hh.out.2.2
        clear hh
        have c_g1 := g1.cell
        go_wp2
        have HG1 := Lib.hid g1
        clear g1 c_g1
        go_loopg [37] NO (fun g i wr => ∃ k : Nat, k ≤ NO ∧ g = NO - k ∧ i = .int .i64 k ∧ Hid ((∀ (i : Nat) o, i < k → m.objs[i]? = some o → ObOk m.types m.objs.length o) ∧ Bx wr w.heap.size 79 #[tv, ov, sv] ∧ Below w.heap.size w wr))
        case atStart => exact ⟨0, by omega, by omega, rfl, Lib.hid ⟨fun i t hi => by omega, HG1.out, HB.out⟩⟩
        case round =>
          clear HG1 HB
          obtain ⟨k, hk, rfl, rfl, hh⟩ := hrel
          by_cases hltk : k < NO
          · obtain ⟨ob, oq, x, o, ix, m0, m1, ho, hx, hob⟩ := (H.out.o.below hh.out.2.2).at_ (k := k) (by have := HNO.out; omega)
            obtain ⟨z, hz⟩ : ∃ z, z = decide (ObOk m.types m.objs.length o) := ⟨_, rfl⟩
            have OT := Lib.hid (fun w h hx => object_any tv ov sv x m o z hz w h hx)
            have HZ := Lib.hid hz; clear hz
            have g1 := hh.out.2.1; have B := hh.out.2.2; have HA := Lib.hid hh.out.1
            have hxx := hx.out
            obtain ⟨xA, xn, xc, rfl⟩ : ∃ A n c, x = .slice A n c := by obtain ⟨A, c, e, _⟩ := hx.out; exact ⟨A, _, c, e⟩
            clear hx
            have H1 := Lib.hid (H.out.below B)
            have c_g1 := g1.cell
            go_upto_region 14 with (fail)
            refine wp_gen (fun Wv => Bx Wv (wr.heap.size) (136) (#[.int .i64 o.ty, .slice xA xn xc]) ∧ Below wr.heap.size wr Wv) ⟨((Bx.at_ (by simp))), ((Below.refl _ wr).alloc (by simp <;> omega) _)⟩ ?_
            rintro wa1 ⟨g2, b⟩
            try clear c_g1 f_g1 a_g1 d_g1 e_g1
            replace g1 := g1.below b; have c_g1 := g1.cell; have f_g1 := g1.free; have a_g1 := fun o => (g1.alloc o).cell; have d_g1 := fun o o2 => ((g1.alloc o).alloc o2).cell; have e_g1 := fun o => (g1.alloc o).free; replace hxx := hxx.below b; replace B := B.trans (b.mono B.size); clear b
            have c_g2 := g2.cell; have f_g2 := g2.free; have a_g2 := fun o => (g2.alloc o).cell; have d_g2 := fun o o2 => ((g2.alloc o).alloc o2).cell; have e_g2 := fun o => (g2.alloc o).free
            go_wp2_with fail
            refine (OT.out _ (H.out.below B) hxx).mono ?_
            rintro e w2 ⟨rfl, b2⟩
            replace B := B.trans (b2.mono B.size)
            cases z
            · have hbad := HBAD.out (no_obj ho.out (by have := HZ.out; rw [eq_comm, decide_eq_false_iff_not] at this; exact this))
              subst hbad
              clear b2
              go_wp2
              go_ret
              exact ⟨rfl, B⟩
            · have HH := Lib.hid (And.intro (g1.below b2) B)
              clear b2 g1 g2 c_g1 c_g2 f_g1 f_g2 a_g1 a_g2 d_g1 d_g2 e_g1 e_g2 B m0 m1
              go_wp2
              go_roundg (NO - (k + 1))
              case measure => omega
              case rel =>
                refine ⟨k + 1, by omega, rfl, by go_num, Lib.hid ⟨fun i u hi hu => ?_, HH.out⟩⟩
                by_cases hik : i < k
                · exact HA.out i u hik hu
                · obtain rfl : i = k := by omega
                  have := ho.out; rw [hu] at this; injection this with this; subst this
                  have := HZ.out; rw [eq_comm, decide_eq_true_iff] at this; exact this
          · obtain rfl : k = NO := by omega
            have HO := Lib.hid (fun i t hi => hh.out.1 i t hi); have g1 := hh.out.2.1; have HB := Lib.hid hh.out.2.2
            clear hh
            have c_g1 := g1.cell
            go_wp2
            have HG1 := Lib.hid g1
            clear g1 c_g1
            go_loopg [49] 16 (fun g i wr => ∃ q : Nat, q ≤ 16 ∧ g = 16 - q ∧ i = .int .i64 q ∧ Hid ((∀ (i : Nat) o, i < q → m.slots[i]? = some o → SlOk m.objs.length o) ∧ Bx wr w.heap.size 79 #[tv, ov, sv] ∧ Below w.heap.size w wr))
            case atStart => exact ⟨0, by omega, by omega, rfl, Lib.hid ⟨fun i t hi => by omega, HG1.out, HB.out⟩⟩
            case round =>
              clear HG1 HB
              obtain ⟨q, hq, rfl, rfl, hh⟩ := hrel
              by_cases hltq : q < 16
              · have hqn : q < NS := by have := HS3.out; omega
                obtain ⟨sb, sq, s, ix, m0, m1, m2, hs⟩ := (H.out.s.below hh.out.2.2).at_ (P := Try.prog) Try.underlying64 size_slot (k := q) (by have := HNS.out; omega)
                obtain ⟨z, hz⟩ : ∃ z, z = decide (SlOk m.objs.length s) := ⟨_, rfl⟩
                have ST := Lib.hid (fun w h => slot_any tv ov sv m s z hz w h)
                have HZ := Lib.hid hz; clear hz
                have g1 := hh.out.2.1; have B := hh.out.2.2; have HA := Lib.hid hh.out.1
                have c_g1 := g1.cell
                go_upto_region 20 with (fail)
                refine wp_gen (fun Wv => Bx Wv (wr.heap.size) (68) (#[.int .i64 s.gen, .bool s.used, .int .i64 s.at_]) ∧ Below wr.heap.size wr Wv) ⟨((Bx.at_ (by simp))), ((Below.refl _ wr).alloc (by simp <;> omega) _)⟩ ?_
                rintro wa1 ⟨g2, b⟩
                try clear c_g1 f_g1 a_g1 d_g1 e_g1
                replace g1 := g1.below b; have c_g1 := g1.cell; have f_g1 := g1.free; have a_g1 := fun o => (g1.alloc o).cell; have d_g1 := fun o o2 => ((g1.alloc o).alloc o2).cell; have e_g1 := fun o => (g1.alloc o).free; replace B := B.trans (b.mono B.size); clear b
                have c_g2 := g2.cell; have f_g2 := g2.free; have a_g2 := fun o => (g2.alloc o).cell; have d_g2 := fun o o2 => ((g2.alloc o).alloc o2).cell; have e_g2 := fun o => (g2.alloc o).free
                go_wp2_with fail
                refine (ST.out _ (H.out.below B)).mono ?_
                rintro e w2 ⟨rfl, b2⟩
                replace B := B.trans (b2.mono B.size)
                cases z
                · have hbad := HBAD.out (no_slot hs.out (by have := HZ.out; rw [eq_comm, decide_eq_false_iff_not] at this; exact this))
                  subst hbad
                  clear b2
                  go_wp2
                  go_ret
                  exact ⟨rfl, B⟩
                · have HH := Lib.hid (And.intro (g1.below b2) B)
                  clear b2 g1 g2 c_g1 c_g2 f_g1 f_g2 a_g1 a_g2 d_g1 d_g2 e_g1 e_g2 B m0 m1 m2
                  go_wp2
                  go_roundg (16 - (q + 1))
                  case measure => omega
                  case rel =>
                    refine ⟨q + 1, by omega, rfl, by go_num, Lib.hid ⟨fun i u hi hu => ?_, HH.out⟩⟩
                    by_cases hik : i < q
                    · exact HA.out i u hik hu
                    · obtain rfl : i = q := by omega
                      have := hs.out; rw [hu] at this; injection this with this; subst this
                      have := HZ.out; rw [eq_comm, decide_eq_true_iff] at this; exact this
              · obtain rfl : q = 16 := by omega
                have hmo : MoOk m := by
                  refine ⟨by rw [← HNS.out]; exact HS3.out, fun t ht => ?_, fun o ho => ?_, fun s hs => ?_⟩
                  · obtain ⟨i, hi, hit⟩ := List.getElem_of_mem ht
                    exact HT.out i t (by rw [HNT.out]; exact hi) (by rw [List.getElem?_eq_getElem hi, hit])
                  · obtain ⟨i, hi, hit⟩ := List.getElem_of_mem ho
                    exact HO.out i o (by rw [HNO.out]; exact hi) (by rw [List.getElem?_eq_getElem hi, hit])
                  · obtain ⟨i, hi, hit⟩ := List.getElem_of_mem hs
                    exact hh.out.1 i s (by have := HNS.out; have := HS3.out; omega) (by rw [List.getElem?_eq_getElem hi, hit])
                have hr0 := HGOOD.out hmo
                subst hr0
                have hns : ¬ (16 : Int) < NS := by have := HS3.out; omega
                have hns' : decide ((16 : Int) < NS) = false := decide_eq_false hns
                obtain rfl := HS3.out
                go_wp2
                go_ret
                exact ⟨rfl, hh.out.2.2⟩
  · have hr8 := HBAD.out (fun hm => h3 (by rw [HNS.out]; exact hm.1))
    subst hr8
    have h3' : ((NS : Int) != 16) = true := by rw [bne_iff_ne]; omega
    clear h3
    go_enter Try.func46, Try.ntmps46
    go_wp2
    go_ret
    exact ⟨rfl, B.alloc B.size _⟩
end Go.Proofs.Ytbfmdbeeiicabaa
namespace Go.Proofs.Ytbfmdbeeiicabaa
open Go.RowKit L02 L13 L18 L20
/-- what is asked of a slot, as the code asks it -/
theorem sl_split (NO : Nat) (s : Sl) : (¬ SlOk NO s ∧ (decide (s.gen < 0) = true ∨ (decide (s.gen < 0) = false ∧ decide (2147483647 < s.gen) = true) ∨
      (decide (s.gen < 0) = false ∧ decide (2147483647 < s.gen) = false ∧ ((s.used = false ∧ (s.at_ != 0) = true) ∨ (s.used = true ∧ ((s.gen == 0) = true ∨ ((s.gen == 0) = false ∧ (decide (s.at_ < 0) = true ∨ (decide (s.at_ < 0) = false ∧ decide ((NO : Int) ≤ s.at_) = true)))))))) ) ∨
    (SlOk NO s ∧ decide (s.gen < 0) = false ∧ decide (2147483647 < s.gen) = false ∧ ((s.used = false ∧ (s.at_ != 0) = false) ∨ (s.used = true ∧ (s.gen == 0) = false ∧ decide (s.at_ < 0) = false ∧ decide ((NO : Int) ≤ s.at_) = false))) := by
  obtain ⟨g, u, a⟩ := s
  unfold SlOk
  dsimp only
  simp only [decide_eq_true_eq, decide_eq_false_iff_not, bne_iff_ne, bne_eq_false_iff_eq, beq_iff_eq, beq_eq_false_iff_ne]
  cases u
  · simp only [Bool.false_eq_true, false_and, or_false, true_and, true_implies, false_implies, and_true]
    omega
  · simp only [Bool.true_eq_false, false_and, false_or, true_and, true_implies, false_implies]
    omega
set_option maxRecDepth 100000 in
set_option maxHeartbeats 16000000 in
theorem validR_any (tv ov sv : Value) (m : Mo) (b : Bool) (hb : b = decide (MoOk m)) (w : World) (h : Mod w tv ov sv m) :
    Calls Try.prog 91 #[.agg #[tv, ov, sv]] w fun e w' => e = .returned (.bool b) ∧ Below w.heap.size w w' := by
  have B : Below w.heap.size w w := Below.refl _ _
  have lt := h.t.len; have lo := h.o.len; have ls := h.s.len
  have lt' := h.t.len_le; have lo' := h.o.len_le; have ls' := h.s.len_le
  have hbad : ¬ MoOk m → b = false := fun h2 => by rw [hb, decide_eq_false h2]
  obtain ⟨NT, hNT⟩ : ∃ N, N = m.types.length := ⟨_, rfl⟩
  obtain ⟨NO, hNO⟩ : ∃ N, N = m.objs.length := ⟨_, rfl⟩
  obtain ⟨NS, hNS⟩ : ∃ N, N = m.slots.length := ⟨_, rfl⟩
  rw [← hNT] at lt lt'; rw [← hNO] at lo lo'; rw [← hNS] at ls ls'
  have H := Lib.hid h; have HNT := Lib.hid hNT; have HNO := Lib.hid hNO; have HNS := Lib.hid hNS; have HBAD := Lib.hid hbad; have HB0 := Lib.hid hb
  clear h hNT hNO hNS hbad hb
  go_enter Try.func91, Try.ntmps91
  go_upto_region 1 with (fail)
  refine wp_gen (fun Wv => Bx Wv (w.heap.size) (79) (#[tv, ov, sv]) ∧ Below w.heap.size w Wv) ⟨((Bx.at_ (by simp))), ((Below.refl _ w).alloc (by simp <;> omega) _)⟩ ?_
  rintro wa1 ⟨g1, b⟩
  replace B := B.trans (b.mono B.size); clear b
  have c_g1 := g1.cell; have f_g1 := g1.free; have a_g1 := fun o => (g1.alloc o).cell; have d_g1 := fun o o2 => ((g1.alloc o).alloc o2).cell; have e_g1 := fun o => (g1.alloc o).free
  have HB := Lib.hid B; clear B
  go_wp2
  have HG1 := Lib.hid g1
  clear g1 c_g1 f_g1 a_g1 d_g1 e_g1
  go_loopg [3] NT (fun g i wr => ∃ j : Nat, j ≤ NT ∧ g = NT - j ∧ i = .int .i64 j ∧ Hid ((∀ (i : Nat) t, i < j → m.types[i]? = some t → kErr t = 0) ∧ Bx wr w.heap.size 79 #[tv, ov, sv] ∧ Below w.heap.size w wr))
  case atStart => exact ⟨0, by omega, by omega, rfl, Lib.hid ⟨fun i t hi => by omega, HG1.out, HB.out⟩⟩
  case round =>
    clear HG1 HB
    obtain ⟨j, hj, rfl, rfl, hh⟩ := hrel
    have g1 := hh.out.2.1
    have c_g1 := g1.cell
    by_cases hlt : j < NT
    · obtain ⟨ad, y, t, iy, m0, ht, hby⟩ := (H.out.t.below hh.out.2.2).at_ (k := j) (by have := HNT.out; omega)
      by_cases hk : kErr t = 0
      · have KT := Lib.hid (fun w h => KCheckR_any y t 0 hk.symm w h)
        have HK := Lib.hid hk; clear hk
        go_wp2_with fail
        refine (KT.out _ hby.out).mono ?_
        rintro e w2 ⟨rfl, rfl⟩
        go_wp2
        go_roundg (NT - (j + 1))
        case measure => omega
        case rel =>
          refine ⟨j + 1, by omega, rfl, by go_num, Lib.hid ⟨fun i u hi hu => ?_, hh.out.2⟩⟩
          by_cases hij : i < j
          · exact hh.out.1 i u hij hu
          · obtain rfl : i = j := by omega
            have := ht.out; rw [hu] at this; injection this with this; subst this; exact HK.out
      · have hbf := HBAD.out (no_type ht.out hk)
        subst hbf
        obtain ⟨z, hz⟩ : ∃ z, z = kErr t := ⟨_, rfl⟩
        have KT := Lib.hid (fun w h => KCheckR_any y t z hz w h)
        have hne : (z != 0) = true := by rw [bne_iff_ne, hz]; exact hk
        clear hk hz
        go_wp2_with fail
        refine (KT.out _ hby.out).mono ?_
        rintro e w2 ⟨rfl, rfl⟩
        go_wp2
        go_ret
        exact ⟨rfl, hh.out.2.2⟩
    · obtain rfl : j = NT := by omega
      have HT := Lib.hid (fun i t hi => hh.out.1 i t hi); have HB := Lib.hid hh.out.2.2
      clear hh
      go_wp2
      have HG1 := Lib.hid g1
      clear g1 c_g1
      go_loopg [4] NO (fun g i wr => ∃ k : Nat, k ≤ NO ∧ g = NO - k ∧ i = .int .i64 k ∧ Hid ((∀ (i : Nat) o, i < k → m.objs[i]? = some o → ObOk m.types m.objs.length o) ∧ Bx wr w.heap.size 79 #[tv, ov, sv] ∧ Below w.heap.size w wr))
      case atStart => exact ⟨0, by omega, by omega, rfl, Lib.hid ⟨fun i t hi => by omega, HG1.out, HB.out⟩⟩
      case round =>
        clear HG1 HB
        obtain ⟨k, hk, rfl, rfl, hh⟩ := hrel
        have g1 := hh.out.2.1
        have c_g1 := g1.cell
        by_cases hltk : k < NO
        · obtain ⟨ob, oq, x, o, ix, m0, m1, ho, hx, hob⟩ := (H.out.o.below hh.out.2.2).at_ (k := k) (by have := HNO.out; omega)
          have B := hh.out.2.2; have HA := Lib.hid hh.out.1
          have hxx := hx.out
          obtain ⟨xA, xn, xc, rfl⟩ : ∃ A n c, x = .slice A n c := by obtain ⟨A, c, e, _⟩ := hx.out; exact ⟨A, _, c, e⟩
          have lx := Rd.len hxx Try.underlying22
          have lx' := Rd.len_le hxx
          obtain ⟨n, hn⟩ : ∃ N, N = o.fs.length := ⟨_, rfl⟩
          rw [← hn] at lx lx'
          have HN := Lib.hid hn; clear hn hx
          clear hh
          go_upto_region 10 with (fail)
          refine wp_gen (fun Wv => Bx Wv (wr.heap.size) (136) (#[.int .i64 o.ty, .slice xA xn xc]) ∧ Below wr.heap.size wr Wv) ⟨((Bx.at_ (by simp))), ((Below.refl _ wr).alloc (by simp <;> omega) _)⟩ ?_
          rintro wa1 ⟨g2, b⟩
          try clear c_g1 f_g1 a_g1 d_g1 e_g1
          replace g1 := g1.below b; have c_g1 := g1.cell; have f_g1 := g1.free; have a_g1 := fun o => (g1.alloc o).cell; have d_g1 := fun o o2 => ((g1.alloc o).alloc o2).cell; have e_g1 := fun o => (g1.alloc o).free; replace hxx := hxx.below b; replace B := B.trans (b.mono B.size); clear b
          have c_g2 := g2.cell; have f_g2 := g2.free; have a_g2 := fun o => (g2.alloc o).cell; have d_g2 := fun o o2 => ((g2.alloc o).alloc o2).cell; have e_g2 := fun o => (g2.alloc o).free
          clear m0 m1
          by_cases hty : 0 ≤ o.ty ∧ o.ty < j
          · obtain ⟨q, hq⟩ := Int.eq_ofNat_of_zero_le hty.1
            have hqt : q < m.types.length := by have := HNT.out; omega
            obtain ⟨ad, y, t, iy, m0, ht, hby⟩ := (H.out.t.below B).at_ hqt
            have ht' : ty m.types o = t := by rw [ty, hq]; simp [List.getD_eq_getElem?_getD, ht.out]
            have hby' := hby.out
            have ly := Rd.len hby' Try.underlying44
            obtain ⟨nt, hnt⟩ : ∃ N, N = t.length := ⟨_, rfl⟩
            rw [← hnt] at ly
            have HNt := Lib.hid hnt
            have HTY := Lib.hid (And.intro hty ht'); have HQ := Lib.hid hq
            have ha : decide ((q : Int) < 0) = false := by rw [decide_eq_false_iff_not]; omega
            have hb1 : decide ((j : Int) ≤ (q : Int)) = false := by rw [decide_eq_false_iff_not]; omega
            have hb2 : decide (j ≤ q) = false := by rw [decide_eq_false_iff_not]; omega
            rw [hq] at g2 c_g2 a_g2 d_g2
            clear hby hq hty ht' hqt ht
            by_cases hl : n = nt
            · have hc : ((n : Int) != (nt : Int)) = false := by rw [bne_eq_false_iff_eq]; omega
              have HL := Lib.hid hl
              clear hnt hl
              refine wp_region_calm (by kernel_rfl) (by kernel_rfl) ?_
              try clear c_g1 f_g1 a_g1 d_g1 e_g1
              have c_g1 := fun x : Fut _ => (g1.below x.h).cell
              try clear c_g2 f_g2 a_g2 d_g2 e_g2
              have c_g2 := fun x : Fut _ => (g2.below x.h).cell
              have c_m0 := fun x : Fut _ => cell_later x.h m0
              repeat (go_big_quiet_step (fail))
              refine wpQuiet_nil ?_
              intro _ hw'
              obtain ⟨xq, hw''⟩ := hw'
              subst hw''
              clear c_g1; replace g1 := g1.below xq.h; have c_g1 := g1.cell; have f_g1 := g1.free; have a_g1 := fun o => (g1.alloc o).cell; have d_g1 := fun o o2 => ((g1.alloc o).alloc o2).cell; have e_g1 := fun o => (g1.alloc o).free
              clear c_g2; replace g2 := g2.below xq.h; have c_g2 := g2.cell; have f_g2 := g2.free; have a_g2 := fun o => (g2.alloc o).cell; have d_g2 := fun o o2 => ((g2.alloc o).alloc o2).cell; have e_g2 := fun o => (g2.alloc o).free
              replace hxx := hxx.below xq.h
              clear c_m0; replace m0 := cell_later xq.h m0
              replace hby' := hby'.below xq.h
              replace B := B.trans (xq.h.mono B.size)
              go_wp2
              have HH := Lib.hid (And.intro g1 (And.intro g2 B))
              have HXX := Lib.hid hxx; have HBY := Lib.hid hby'
              have HM0 := Lib.hid m0
              clear g1 g2 c_g1 c_g2 f_g1 f_g2 a_g1 a_g2 d_g1 d_g2 e_g1 e_g2 B hxx hby' m0
              go_loopg [6] n (fun g i wr2 => ∃ p : Nat, p ≤ n ∧ g = n - p ∧ i = .int .i64 p ∧ Hid ((∀ i, i < p → FdOk NO (t.getD i 0) (o.fs.getD i 0)) ∧ Bx wr2 w.heap.size 79 #[tv, ov, sv] ∧ Bx wr2 wr.heap.size 136 #[.int .i64 (q : Int), .slice xA xn xc] ∧ Below w.heap.size w wr2 ∧ Words wr2 (.slice xA xn xc) o.fs ∧ Byts wr2 y t ∧ wr2.cell? ad = some y))
              case atStart => exact ⟨0, by omega, by omega, rfl, Lib.hid ⟨fun i hi => by omega, HH.out.1, HH.out.2.1, HH.out.2.2, HXX.out, HBY.out, HM0.out⟩⟩
              case round =>
                clear HH HXX HBY HM0
                obtain ⟨p, hp, rfl, rfl, hh⟩ := hrel
                have HA2 := Lib.hid hh.out.1
                obtain ⟨g1, g2, B, hxx, hby', m0⟩ := hh.out.2
                have c_g1 := g1.cell; have c_g2 := g2.cell
                clear hh
                by_cases hltp : p < n
                · obtain ⟨bd, kk, ib, m1, hkk⟩ := hby'.at_ (P := Try.prog) Try.underlying44 one_u8 (k := p) (by have := HNt.out; have := HL.out; omega)
                  obtain ⟨cd, v, ic, m2, hv⟩ := hxx.at_ (P := Try.prog) Try.underlying22 one_u64 (k := p) (by have := HN.out; omega)
                  have ek : t.getD p 0 = kk := by simp [List.getD_eq_getElem?_getD, hkk.out]
                  have ev : o.fs.getD p 0 = v := by simp [List.getD_eq_getElem?_getD, hv.out]
                  have EK := Lib.hid ek; have EV := Lib.hid ev
                  clear hkk hv ek ev
                  have hwn : IntKind.u64.wrap ((NO : Nat) : Int) = (NO : Int) := by show (NO : Int) % 18446744073709551616 = _; omega
                  have FT := Lib.hid (fun b hb w => FloatR_any v b hb w)
                  have hcase := fd_split NO kk v
                  have hno : ∀ z, FdOk NO kk v = z → (z → False) → b = false := fun z hz hf => HBAD.out (no_obj ho.out (fun hoo => by
                    have h1 := hoo.2.2 p (by rw [← HN.out]; exact hltp)
                    rw [HTY.out.2, EK.out, EV.out, ← HNO.out, hz] at h1
                    exact hf h1))
                  have HNO2 := Lib.hid hno; clear hno
                  rcases hcase with ⟨z, e2, zf⟩ | ⟨z, e3, zf⟩ | ⟨z, e2, zf⟩ | ⟨z, e3, zf⟩ | ⟨z, e2, e3⟩
                  · have hbf : b = false := HNO2.out _ rfl z
                    have k2 : ((kk.toNat : Int) == 2) = true := by rw [beq_iff_eq]; omega
                    have FT1 := Lib.hid (FT.out false (decide_eq_false zf).symm)
                    clear z e2 zf FT
                    subst hbf
                    go_wp2
                    refine wp_region_calm (by kernel_rfl) (by kernel_rfl) ?_
                    try clear c_g1 f_g1 a_g1 d_g1 e_g1
                    have c_g1 := fun x : Fut _ => (g1.below x.h).cell
                    try clear c_g2 f_g2 a_g2 d_g2 e_g2
                    have c_g2 := fun x : Fut _ => (g2.below x.h).cell
                    have c_m0 := fun x : Fut _ => cell_later x.h m0
                    have c_m1 := fun x : Fut _ => cell_later x.h m1
                    have c_m2 := fun x : Fut _ => cell_later x.h m2
                    repeat (go_big_quiet_step (exact Fut.call (FT1.out _)))
                    refine wpQuiet_nil ?_
                    intro _ hw'
                    obtain ⟨xq, hw''⟩ := hw'
                    subst hw''
                    clear c_g1; replace g1 := g1.below xq.h; have c_g1 := g1.cell; have f_g1 := g1.free; have a_g1 := fun o => (g1.alloc o).cell; have d_g1 := fun o o2 => ((g1.alloc o).alloc o2).cell; have e_g1 := fun o => (g1.alloc o).free
                    clear c_g2; replace g2 := g2.below xq.h; have c_g2 := g2.cell; have f_g2 := g2.free; have a_g2 := fun o => (g2.alloc o).cell; have d_g2 := fun o o2 => ((g2.alloc o).alloc o2).cell; have e_g2 := fun o => (g2.alloc o).free
                    replace hxx := hxx.below xq.h
                    replace hby' := hby'.below xq.h
                    clear c_m0; replace m0 := cell_later xq.h m0
                    clear c_m1; replace m1 := cell_later xq.h m1
                    clear c_m2; replace m2 := cell_later xq.h m2
                    replace B := B.trans (xq.h.mono B.size)
                    go_wp2
                    go_ret
                    exact ⟨rfl, B⟩
                  · have hbf : b = false := HNO2.out _ rfl z
                    have k2 : ((kk.toNat : Int) == 2) = false := by rw [beq_eq_false_iff_ne]; omega
                    have k3 : ((kk.toNat : Int) == 3) = true := by rw [beq_iff_eq]; omega
                    clear z e3 FT
                    subst hbf
                    go_wp2
                    refine wp_region_calm (by kernel_rfl) (by kernel_rfl) ?_
                    try clear c_g1 f_g1 a_g1 d_g1 e_g1
                    have c_g1 := fun x : Fut _ => (g1.below x.h).cell
                    try clear c_g2 f_g2 a_g2 d_g2 e_g2
                    have c_g2 := fun x : Fut _ => (g2.below x.h).cell
                    have c_m0 := fun x : Fut _ => cell_later x.h m0
                    have c_m1 := fun x : Fut _ => cell_later x.h m1
                    have c_m2 := fun x : Fut _ => cell_later x.h m2
                    repeat (go_big_quiet_step (fail))
                    refine wpQuiet_nil ?_
                    intro _ hw'
                    obtain ⟨xq, hw''⟩ := hw'
                    subst hw''
                    clear c_g1; replace g1 := g1.below xq.h; have c_g1 := g1.cell; have f_g1 := g1.free; have a_g1 := fun o => (g1.alloc o).cell; have d_g1 := fun o o2 => ((g1.alloc o).alloc o2).cell; have e_g1 := fun o => (g1.alloc o).free
                    clear c_g2; replace g2 := g2.below xq.h; have c_g2 := g2.cell; have f_g2 := g2.free; have a_g2 := fun o => (g2.alloc o).cell; have d_g2 := fun o o2 => ((g2.alloc o).alloc o2).cell; have e_g2 := fun o => (g2.alloc o).free
                    replace hxx := hxx.below xq.h
                    replace hby' := hby'.below xq.h
                    clear c_m0; replace m0 := cell_later xq.h m0
                    clear c_m1; replace m1 := cell_later xq.h m1
                    clear c_m2; replace m2 := cell_later xq.h m2
                    replace B := B.trans (xq.h.mono B.size)
                    go_wp2
                    go_ret
                    exact ⟨rfl, B⟩
                  · have k2 : ((kk.toNat : Int) == 2) = true := by rw [beq_iff_eq]; omega
                    have k3 : ((kk.toNat : Int) == 3) = false := by rw [beq_eq_false_iff_ne]; omega
                    have FT1 := Lib.hid (FT.out true (decide_eq_true zf).symm)
                    have HZ := Lib.hid z
                    clear z e2 zf FT
                    go_wp2
                    refine wp_region_calm (by kernel_rfl) (by kernel_rfl) ?_
                    try clear c_g1 f_g1 a_g1 d_g1 e_g1
                    have c_g1 := fun x : Fut _ => (g1.below x.h).cell
                    try clear c_g2 f_g2 a_g2 d_g2 e_g2
                    have c_g2 := fun x : Fut _ => (g2.below x.h).cell
                    have c_m0 := fun x : Fut _ => cell_later x.h m0
                    have c_m1 := fun x : Fut _ => cell_later x.h m1
                    have c_m2 := fun x : Fut _ => cell_later x.h m2
                    repeat (go_big_quiet_step (exact Fut.call (FT1.out _)))
                    refine wpQuiet_nil ?_
                    intro _ hw'
                    obtain ⟨xq, hw''⟩ := hw'
                    subst hw''
                    clear c_g1; replace g1 := g1.below xq.h; have c_g1 := g1.cell; have f_g1 := g1.free; have a_g1 := fun o => (g1.alloc o).cell; have d_g1 := fun o o2 => ((g1.alloc o).alloc o2).cell; have e_g1 := fun o => (g1.alloc o).free
                    clear c_g2; replace g2 := g2.below xq.h; have c_g2 := g2.cell; have f_g2 := g2.free; have a_g2 := fun o => (g2.alloc o).cell; have d_g2 := fun o o2 => ((g2.alloc o).alloc o2).cell; have e_g2 := fun o => (g2.alloc o).free
                    replace hxx := hxx.below xq.h
                    replace hby' := hby'.below xq.h
                    clear c_m0; replace m0 := cell_later xq.h m0
                    clear c_m1; replace m1 := cell_later xq.h m1
                    clear c_m2; replace m2 := cell_later xq.h m2
                    replace B := B.trans (xq.h.mono B.size)
                    go_wp2
                    have HH := Lib.hid (And.intro g1 (And.intro g2 (And.intro B (And.intro hxx (And.intro hby' m0)))))
                    clear g1 g2 c_g1 c_g2 f_g1 f_g2 a_g1 a_g2 d_g1 d_g2 e_g1 e_g2 B hxx hby' m0 m1 m2
                    go_roundg (n - (p + 1))
                    case measure => omega
                    case rel =>
                      refine ⟨p + 1, by omega, rfl, by go_num, Lib.hid ⟨fun i hi => ?_, HH.out⟩⟩
                      by_cases hij : i < p
                      · exact HA2.out i hij
                      · obtain rfl : i = p := by omega
                        rw [EK.out, EV.out]; exact HZ.out
                  · have k2 : ((kk.toNat : Int) == 2) = false := by rw [beq_eq_false_iff_ne]; omega
                    have k3 : ((kk.toNat : Int) == 3) = true := by rw [beq_iff_eq]; omega
                    have HZ := Lib.hid z
                    have zf2 : ¬ NO < v.toNat := by omega
                    clear z e3 FT zf
                    go_wp2
                    refine wp_region_calm (by kernel_rfl) (by kernel_rfl) ?_
                    try clear c_g1 f_g1 a_g1 d_g1 e_g1
                    have c_g1 := fun x : Fut _ => (g1.below x.h).cell
                    try clear c_g2 f_g2 a_g2 d_g2 e_g2
                    have c_g2 := fun x : Fut _ => (g2.below x.h).cell
                    have c_m0 := fun x : Fut _ => cell_later x.h m0
                    have c_m1 := fun x : Fut _ => cell_later x.h m1
                    have c_m2 := fun x : Fut _ => cell_later x.h m2
                    repeat (go_big_quiet_step (fail))
                    refine wpQuiet_nil ?_
                    intro _ hw'
                    obtain ⟨xq, hw''⟩ := hw'
                    subst hw''
                    clear c_g1; replace g1 := g1.below xq.h; have c_g1 := g1.cell; have f_g1 := g1.free; have a_g1 := fun o => (g1.alloc o).cell; have d_g1 := fun o o2 => ((g1.alloc o).alloc o2).cell; have e_g1 := fun o => (g1.alloc o).free
                    clear c_g2; replace g2 := g2.below xq.h; have c_g2 := g2.cell; have f_g2 := g2.free; have a_g2 := fun o => (g2.alloc o).cell; have d_g2 := fun o o2 => ((g2.alloc o).alloc o2).cell; have e_g2 := fun o => (g2.alloc o).free
                    replace hxx := hxx.below xq.h
                    replace hby' := hby'.below xq.h
                    clear c_m0; replace m0 := cell_later xq.h m0
                    clear c_m1; replace m1 := cell_later xq.h m1
                    clear c_m2; replace m2 := cell_later xq.h m2
                    replace B := B.trans (xq.h.mono B.size)
                    go_wp2
                    have HH := Lib.hid (And.intro g1 (And.intro g2 (And.intro B (And.intro hxx (And.intro hby' m0)))))
                    clear g1 g2 c_g1 c_g2 f_g1 f_g2 a_g1 a_g2 d_g1 d_g2 e_g1 e_g2 B hxx hby' m0 m1 m2
                    go_roundg (n - (p + 1))
                    case measure => omega
                    case rel =>
                      refine ⟨p + 1, by omega, rfl, by go_num, Lib.hid ⟨fun i hi => ?_, HH.out⟩⟩
                      by_cases hij : i < p
                      · exact HA2.out i hij
                      · obtain rfl : i = p := by omega
                        rw [EK.out, EV.out]; exact HZ.out
                  · have k2 : ((kk.toNat : Int) == 2) = false := by rw [beq_eq_false_iff_ne]; omega
                    have k3 : ((kk.toNat : Int) == 3) = false := by rw [beq_eq_false_iff_ne]; omega
                    have HZ := Lib.hid z
                    clear z e2 e3 FT
                    go_wp2
                    refine wp_region_calm (by kernel_rfl) (by kernel_rfl) ?_
                    try clear c_g1 f_g1 a_g1 d_g1 e_g1
                    have c_g1 := fun x : Fut _ => (g1.below x.h).cell
                    try clear c_g2 f_g2 a_g2 d_g2 e_g2
                    have c_g2 := fun x : Fut _ => (g2.below x.h).cell
                    have c_m0 := fun x : Fut _ => cell_later x.h m0
                    have c_m1 := fun x : Fut _ => cell_later x.h m1
                    have c_m2 := fun x : Fut _ => cell_later x.h m2
                    repeat (go_big_quiet_step (fail))
                    refine wpQuiet_nil ?_
                    intro _ hw'
                    obtain ⟨xq, hw''⟩ := hw'
                    subst hw''
                    clear c_g1; replace g1 := g1.below xq.h; have c_g1 := g1.cell; have f_g1 := g1.free; have a_g1 := fun o => (g1.alloc o).cell; have d_g1 := fun o o2 => ((g1.alloc o).alloc o2).cell; have e_g1 := fun o => (g1.alloc o).free
                    clear c_g2; replace g2 := g2.below xq.h; have c_g2 := g2.cell; have f_g2 := g2.free; have a_g2 := fun o => (g2.alloc o).cell; have d_g2 := fun o o2 => ((g2.alloc o).alloc o2).cell; have e_g2 := fun o => (g2.alloc o).free
                    replace hxx := hxx.below xq.h
                    replace hby' := hby'.below xq.h
                    clear c_m0; replace m0 := cell_later xq.h m0
                    clear c_m1; replace m1 := cell_later xq.h m1
                    clear c_m2; replace m2 := cell_later xq.h m2
                    replace B := B.trans (xq.h.mono B.size)
                    go_wp2
                    have HH := Lib.hid (And.intro g1 (And.intro g2 (And.intro B (And.intro hxx (And.intro hby' m0)))))
                    clear g1 g2 c_g1 c_g2 f_g1 f_g2 a_g1 a_g2 d_g1 d_g2 e_g1 e_g2 B hxx hby' m0 m1 m2
                    go_roundg (n - (p + 1))
                    case measure => omega
                    case rel =>
                      refine ⟨p + 1, by omega, rfl, by go_num, Lib.hid ⟨fun i hi => ?_, HH.out⟩⟩
                      by_cases hij : i < p
                      · exact HA2.out i hij
                      · obtain rfl : i = p := by omega
                        rw [EK.out, EV.out]; exact HZ.out
                · obtain rfl : p = n := by omega
                  have hoo : ObOk m.types m.objs.length o := by
                    have h0 := HTY.out
                    have h1 := HNT.out; have h2 := HN.out; have h3 := HNt.out; have h4 := HL.out
                    refine ⟨by omega, by rw [h0.2]; omega, fun i hi => ?_⟩
                    rw [h0.2, ← HNO.out]
                    exact HA2.out i (by omega)
                  have HOO := Lib.hid hoo; clear hoo
                  go_wp2
                  have HH := Lib.hid (And.intro g1 B)
                  clear g1 g2 c_g1 c_g2 B hxx hby' m0
                  go_roundg (NO - (k + 1))
                  case measure => omega
                  case rel =>
                    refine ⟨k + 1, by omega, rfl, by go_num, Lib.hid ⟨fun i u hi hu => ?_, HH.out⟩⟩
                    by_cases hik : i < k
                    · exact HA.out i u hik hu
                    · obtain rfl : i = k := by omega
                      have := ho.out; rw [hu] at this; injection this with this; subst this
                      exact HOO.out
            · have hc : ((n : Int) != (nt : Int)) = true := by rw [bne_iff_ne]; omega
              have hbf : b = false := HBAD.out (no_obj ho.out (fun hoo => hl (by have h1 := hoo.2.1; have h2 := HTY.out.2; rw [h2, ← HNt.out, ← HN.out] at h1; exact h1)))
              subst hbf
              clear hnt hl
              refine wp_region_calm (by kernel_rfl) (by kernel_rfl) ?_
              try clear c_g1 f_g1 a_g1 d_g1 e_g1
              have c_g1 := fun x : Fut _ => (g1.below x.h).cell
              try clear c_g2 f_g2 a_g2 d_g2 e_g2
              have c_g2 := fun x : Fut _ => (g2.below x.h).cell
              have c_m0 := fun x : Fut _ => cell_later x.h m0
              repeat (go_big_quiet_step (fail))
              refine wpQuiet_nil ?_
              intro _ hw'
              obtain ⟨xq, hw''⟩ := hw'
              subst hw''
              clear c_g1; replace g1 := g1.below xq.h; have c_g1 := g1.cell; have f_g1 := g1.free; have a_g1 := fun o => (g1.alloc o).cell; have d_g1 := fun o o2 => ((g1.alloc o).alloc o2).cell; have e_g1 := fun o => (g1.alloc o).free
              clear c_g2; replace g2 := g2.below xq.h; have c_g2 := g2.cell; have f_g2 := g2.free; have a_g2 := fun o => (g2.alloc o).cell; have d_g2 := fun o o2 => ((g2.alloc o).alloc o2).cell; have e_g2 := fun o => (g2.alloc o).free
              replace hxx := hxx.below xq.h
              clear c_m0; replace m0 := cell_later xq.h m0
              replace hby' := hby'.below xq.h
              replace B := B.trans (xq.h.mono B.size)
              go_wp2
              go_ret
              exact ⟨rfl, B⟩
          · have hbf : b = false := HBAD.out (no_obj ho.out (fun hoo => hty (by have := HNT.out; have := hoo.1; omega)))
            subst hbf
            obtain ⟨ty, fs⟩ := o
            dsimp only at *
            by_cases hneg : ty < 0
            · have ha : decide (ty < 0) = true := decide_eq_true hneg
              clear hty hneg
              refine wp_region_calm (by kernel_rfl) (by kernel_rfl) ?_
              try clear c_g1 f_g1 a_g1 d_g1 e_g1
              have c_g1 := fun x : Fut _ => (g1.below x.h).cell
              try clear c_g2 f_g2 a_g2 d_g2 e_g2
              have c_g2 := fun x : Fut _ => (g2.below x.h).cell
              repeat (go_big_quiet_step (fail))
              refine wpQuiet_nil ?_
              intro _ hw'
              obtain ⟨xq, hw''⟩ := hw'
              subst hw''
              clear c_g1; replace g1 := g1.below xq.h; have c_g1 := g1.cell; have f_g1 := g1.free; have a_g1 := fun o => (g1.alloc o).cell; have d_g1 := fun o o2 => ((g1.alloc o).alloc o2).cell; have e_g1 := fun o => (g1.alloc o).free
              clear c_g2; replace g2 := g2.below xq.h; have c_g2 := g2.cell; have f_g2 := g2.free; have a_g2 := fun o => (g2.alloc o).cell; have d_g2 := fun o o2 => ((g2.alloc o).alloc o2).cell; have e_g2 := fun o => (g2.alloc o).free
              replace B := B.trans (xq.h.mono B.size)
              go_wp2
              go_ret
              exact ⟨rfl, B⟩
            · have ha : decide (ty < 0) = false := decide_eq_false hneg
              have hb1 : decide ((j : Int) ≤ ty) = true := by rw [decide_eq_true_iff]; omega
              clear hty hneg
              refine wp_region_calm (by kernel_rfl) (by kernel_rfl) ?_
              try clear c_g1 f_g1 a_g1 d_g1 e_g1
              have c_g1 := fun x : Fut _ => (g1.below x.h).cell
              try clear c_g2 f_g2 a_g2 d_g2 e_g2
              have c_g2 := fun x : Fut _ => (g2.below x.h).cell
              repeat (go_big_quiet_step (fail))
              refine wpQuiet_nil ?_
              intro _ hw'
              obtain ⟨xq, hw''⟩ := hw'
              subst hw''
              clear c_g1; replace g1 := g1.below xq.h; have c_g1 := g1.cell; have f_g1 := g1.free; have a_g1 := fun o => (g1.alloc o).cell; have d_g1 := fun o o2 => ((g1.alloc o).alloc o2).cell; have e_g1 := fun o => (g1.alloc o).free
              clear c_g2; replace g2 := g2.below xq.h; have c_g2 := g2.cell; have f_g2 := g2.free; have a_g2 := fun o => (g2.alloc o).cell; have d_g2 := fun o o2 => ((g2.alloc o).alloc o2).cell; have e_g2 := fun o => (g2.alloc o).free
              replace B := B.trans (xq.h.mono B.size)
              go_wp2
              go_ret
              exact ⟨rfl, B⟩
        · obtain rfl : k = NO := by omega
          have HO := Lib.hid (fun i t hi => hh.out.1 i t hi); have HB := Lib.hid hh.out.2.2
          clear hh
          go_wp2
          have HG1 := Lib.hid g1
          clear g1 c_g1
          go_loopg [8] NS (fun g i wr => ∃ q : Nat, q ≤ NS ∧ g = NS - q ∧ i = .int .i64 q ∧ Hid ((∀ (i : Nat) o, i < q → m.slots[i]? = some o → SlOk m.objs.length o) ∧ Bx wr w.heap.size 79 #[tv, ov, sv] ∧ Below w.heap.size w wr))
          case atStart => exact ⟨0, by omega, by omega, rfl, Lib.hid ⟨fun i t hi => by omega, HG1.out, HB.out⟩⟩
          case round =>
            clear HG1 HB
            obtain ⟨q, hq, rfl, rfl, hh⟩ := hrel
            have g1 := hh.out.2.1
            have c_g1 := g1.cell
            have B := hh.out.2.2; have HA := Lib.hid hh.out.1
            by_cases hltq : q < NS
            · obtain ⟨sb, sq, s, ix, m0, m1, m2, hs⟩ := (H.out.s.below B).at_ (P := Try.prog) Try.underlying64 size_slot (k := q) (by have := HNS.out; omega)
              have hcase := sl_split k s
              have hsn : ¬ SlOk k s → b = false := fun hn => HBAD.out (no_slot hs.out (by rw [← HNO.out]; exact hn))
              have HSN := Lib.hid hsn; clear hsn hh
              have HSS := Lib.hid hs.out; clear hs
              obtain ⟨gn, us, sa⟩ := s
              dsimp only at m0 m1 m2 hcase
              go_upto_region 22 with (fail)
              refine wp_gen (fun Wv => Bx Wv (wr.heap.size) (68) (#[.int .i64 gn, .bool us, .int .i64 sa]) ∧ Below wr.heap.size wr Wv) ⟨((Bx.at_ (by simp))), ((Below.refl _ wr).alloc (by simp <;> omega) _)⟩ ?_
              rintro wa1 ⟨g2, b⟩
              try clear c_g1 f_g1 a_g1 d_g1 e_g1
              replace g1 := g1.below b; have c_g1 := g1.cell; have f_g1 := g1.free; have a_g1 := fun o => (g1.alloc o).cell; have d_g1 := fun o o2 => ((g1.alloc o).alloc o2).cell; have e_g1 := fun o => (g1.alloc o).free; replace B := B.trans (b.mono B.size); clear b
              have c_g2 := g2.cell; have f_g2 := g2.free; have a_g2 := fun o => (g2.alloc o).cell; have d_g2 := fun o o2 => ((g2.alloc o).alloc o2).cell; have e_g2 := fun o => (g2.alloc o).free
              clear m0 m1 m2
              rcases hcase with ⟨z, h1⟩ | ⟨z, h1, h2, h3⟩
              · have hbf : b = false := HSN.out z
                subst hbf
                clear z
                rcases h1 with h1 | ⟨h1, h2⟩ | ⟨h1, h2, ⟨rfl, h3⟩ | ⟨rfl, h3 | ⟨h3, h4 | ⟨h4, h5⟩⟩⟩⟩
                all_goals
                  go_wp2
                  go_ret
                  exact ⟨rfl, B⟩
              · have HZ := Lib.hid z; clear z
                have HH := Lib.hid (And.intro g1 B)
                rcases h3 with ⟨rfl, h3⟩ | ⟨rfl, h3, h4, h5⟩
                all_goals
                  go_wp2
                  clear g1 g2 c_g1 c_g2 f_g1 f_g2 a_g1 a_g2 d_g1 d_g2 e_g1 e_g2 B
                  go_roundg (NS - (q + 1))
                  case measure => omega
                  case rel =>
                    refine ⟨q + 1, by omega, rfl, by go_num, Lib.hid ⟨fun i u hi hu => ?_, ?_⟩⟩
                    · by_cases hik : i < q
                      · exact HA.out i u hik hu
                      · obtain rfl : i = q := by omega
                        have := HSS.out; rw [hu] at this; injection this with this; subst this
                        rw [← HNO.out]; exact HZ.out
                    · exact HH.out
            · obtain rfl : q = NS := by omega
              have hfin : b = decide (q = 16) := by
                rw [HB0.out]
                congr 1
                rw [eq_iff_iff]
                refine ⟨fun hm => by rw [HNS.out]; exact hm.1, fun h16 => ⟨by rw [← HNS.out]; exact h16, fun t ht => ?_, fun o ho => ?_, fun s hs => ?_⟩⟩
                · obtain ⟨i, hi, hit⟩ := List.getElem_of_mem ht
                  exact HT.out i t (by rw [HNT.out]; exact hi) (by rw [List.getElem?_eq_getElem hi, hit])
                · obtain ⟨i, hi, hit⟩ := List.getElem_of_mem ho
                  exact HO.out i o (by rw [HNO.out]; exact hi) (by rw [List.getElem?_eq_getElem hi, hit])
                · obtain ⟨i, hi, hit⟩ := List.getElem_of_mem hs
                  exact HA.out i s (by rw [HNS.out]; exact hi) (by rw [List.getElem?_eq_getElem hi, hit])
              have HF := Lib.hid hfin; clear hfin
              go_wp2
              go_ret
              refine ⟨ret_bool ?_, B⟩
              rw [HF.out, Bool.eq_iff_iff, beq_iff_eq, decide_eq_true_iff]; omega
end Go.Proofs.Ytbfmdbeeiicabaa
namespace Go.Proofs.Ytbfmdbeeiicabaa
open Go.RowKit L02 L13 L18 L20
set_option maxRecDepth 100000 in
set_option maxHeartbeats 4000000 in
theorem CheckR20_any (tv ov sv : Value) (m : Mo) (r : Int) (hr : r = chk m) (w : World) (h : Mod w tv ov sv m) :
    Calls Try.prog 47 #[.agg #[tv, ov, sv]] w fun e w' => e = .returned (.int .i64 r) ∧ Below w.heap.size w w' := by
  have B : Below w.heap.size w w := Below.refl _ _
  have lt := h.t.len; have lo := h.o.len; have ls := h.s.len
  have lt' := h.t.len_le; have lo' := h.o.len_le
  have hbig : 8 < m.types.length ∨ 960 < m.objs.length → r = 4 := fun hm => by rw [hr, chk_many hm]
  have hbad : ¬ (8 < m.types.length ∨ 960 < m.objs.length) → ¬ MoOk m → r = 8 := fun h1 h2 => by rw [hr, chk_bad h1 h2]
  have hgood : ¬ (8 < m.types.length ∨ 960 < m.objs.length) → MoOk m → r = 0 := fun h1 h2 => by rw [hr, chk_zero h1 h2]
  obtain ⟨z, hz⟩ : ∃ z, z = decide (MoOk m) := ⟨_, rfl⟩
  have VT := Lib.hid (fun w h => validR_any tv ov sv m z hz w h)
  obtain ⟨NT, hNT⟩ : ∃ N, N = m.types.length := ⟨_, rfl⟩
  obtain ⟨NO, hNO⟩ : ∃ N, N = m.objs.length := ⟨_, rfl⟩
  rw [← hNT] at lt lt' hbig hbad hgood; rw [← hNO] at lo lo' hbig hbad hgood
  clear hr hNT hNO
  by_cases h1 : 8 < NT
  · have hr4 := hbig (.inl h1)
    clear hbig hbad hgood h
    subst hr4
    go_enter Try.func47, Try.ntmps47
    go_wp2
    go_ret
    exact ⟨rfl, B.alloc B.size _⟩
  by_cases h2 : 960 < NO
  · have hr4 := hbig (.inr h2)
    clear hbig hbad hgood h
    subst hr4
    go_enter Try.func47, Try.ntmps47
    go_wp2
    go_ret
    exact ⟨rfl, B.alloc B.size _⟩
  have hnm : ¬ (8 < NT ∨ 960 < NO) := by omega
  have hrr : r = if z = true then 0 else 8 := by
    by_cases hm : MoOk m
    · rw [hgood hnm hm, hz, decide_eq_true hm]; rfl
    · rw [hbad hnm hm, hz, decide_eq_false hm]; rfl
  have H := Lib.hid h
  clear hbig hbad hgood hnm hz h
  cases z
  · obtain rfl : r = 8 := hrr
    go_enter Try.func47, Try.ntmps47
    go_upto_region 1 with (fail)
    refine wp_gen (fun Wv => Bx Wv (w.heap.size) (79) (#[tv, ov, sv]) ∧ Below w.heap.size w Wv) ⟨((Bx.at_ (by simp))), ((Below.refl _ w).alloc (by simp <;> omega) _)⟩ ?_
    rintro wa1 ⟨g1, b⟩
    replace B := B.trans (b.mono B.size); clear b
    have c_g1 := g1.cell; have f_g1 := g1.free; have a_g1 := fun o => (g1.alloc o).cell; have d_g1 := fun o o2 => ((g1.alloc o).alloc o2).cell; have e_g1 := fun o => (g1.alloc o).free
    go_wp2_with fail
    refine (VT.out _ (H.out.below B)).mono ?_
    rintro e w2 ⟨rfl, b2⟩
    replace B := B.trans (b2.mono B.size)
    clear b2
    go_wp2
    go_ret
    exact ⟨rfl, B⟩
  · obtain rfl : r = 0 := hrr
    go_enter Try.func47, Try.ntmps47
    go_upto_region 1 with (fail)
    refine wp_gen (fun Wv => Bx Wv (w.heap.size) (79) (#[tv, ov, sv]) ∧ Below w.heap.size w Wv) ⟨((Bx.at_ (by simp))), ((Below.refl _ w).alloc (by simp <;> omega) _)⟩ ?_
    rintro wa1 ⟨g1, b⟩
    replace B := B.trans (b.mono B.size); clear b
    have c_g1 := g1.cell; have f_g1 := g1.free; have a_g1 := fun o => (g1.alloc o).cell; have d_g1 := fun o o2 => ((g1.alloc o).alloc o2).cell; have e_g1 := fun o => (g1.alloc o).free
    go_wp2_with fail
    refine (VT.out _ (H.out.below B)).mono ?_
    rintro e w2 ⟨rfl, b2⟩
    replace B := B.trans (b2.mono B.size)
    clear b2
    go_wp2
    go_ret
    exact ⟨rfl, B⟩
end Go.Proofs.Ytbfmdbeeiicabaa
namespace Go.Proofs.Ytbfmdbeeiicabaa
open Go Go.RowKit
section
variable {P : Program} {ops : Array Oper} {md : Region.Mode} {C : Array Bool → World → Prop}
def uponF (P : Program) (Post : World → Prop) (v : Value) : Result Next → Prop
  | .ok (.value u) w' => u = v ∧ Post w'
  | .ok .skip w' => v = undef ∧ Post w'
  | .ok (.enter f args) w' => Calls P f args w' (fun e w'' => e = .returned v ∧ Post w'')
  | _ => False
def YieldsF (P : Program) (md : Region.Mode) (ops : Array Oper) (C : Array Bool → World → Prop) (i : Nat) (o : Oper) (v : Value) (a : Act) : Prop :=
  (Region.wanted o (yielded ops a.tmps) = true ∧ ∀ listed w, i ∈ Region.ready md ops listed → C listed w → uponF P (C (listed.setIfInBounds i true)) v ((execOp a.eval o).run P w)) ∨
  (Region.wanted o (yielded ops a.tmps) = false ∧ v = undef ∧ ∀ listed w, i ∈ Region.ready md ops listed → C listed w → C (listed.setIfInBounds i true) w)
def qOpF (P : Program) (md : Region.Mode) (ops : Array Oper) (C : Array Bool → World → Prop) (i : Nat) (K : Act → Prop) (a : Act) : Prop :=
  match ops[i]? with
  | none => False
  | some o => ∃ v, YieldsF P md ops C i o v a ∧ K (a.put o.dst v)
theorem qOpF_mono {i : Nat} {a : Act} {K K' : Act → Prop} (h : ∀ a, K a → K' a) (hh : qOpF P md ops C i K a) : qOpF P md ops C i K' a := by
  unfold qOpF at *
  split
  · rename_i ho; simp only [ho] at hh
  · rename_i o ho
    simp only [ho] at hh
    obtain ⟨v, h1, h2⟩ := hh
    exact ⟨v, h1, h _ h2⟩
def wpAnyF (P : Program) (md : Region.Mode) (ops : Array Oper) (C : Array Bool → World → Prop) (Q : Array Bool → Act → Prop) : Nat → Array Bool → Act → Prop
  | 0, listed, a => Region.ready md ops listed = [] ∧ Q listed a
  | fuel + 1, listed, a =>
    (Region.ready md ops listed = [] → Q listed a) ∧
    ∀ i ∈ Region.ready md ops listed, qOpF P md ops C i (wpAnyF P md ops C Q fuel (listed.setIfInBounds i true)) a
theorem wpOp_of_qOpF {i : Nat} {a : Act} {listed : Array Bool} {K : Act → Prop} {K' : Act → World → Prop} {Q' : Exit → Act → World → Prop} {w : World} (hl : i ∈ Region.ready md ops listed) (hC : C listed w)
    (h : ∀ a w', C (listed.setIfInBounds i true) w' → K a → K' a w') (hh : qOpF P md ops C i K a) : wpOp P ops Q' i K' a w := by
  unfold qOpF at hh
  unfold wpOp
  split
  · rename_i ho; simp only [ho] at hh
  · rename_i o ho
    simp only [ho] at hh
    obtain ⟨v, hy, h2⟩ := hh
    rcases hy with ⟨hw, hv⟩ | ⟨hw, rfl, hv⟩
    · rw [if_pos hw]
      left
      have h3 := hv listed w hl hC
      unfold Oper.wp
      generalize (execOp a.eval o).run P w = r at *
      cases r with
      | ok n w' =>
        cases n <;> simp only [uponF] at h3 <;> simp only [Oper.upon]
        case value u => obtain ⟨e1, e2⟩ := h3; rw [e1]; exact h _ _ e2 h2
        case skip => obtain ⟨e1, e2⟩ := h3; rw [← e1]; exact h _ _ e2 h2
        case enter f args => exact h3.mono fun e w'' ⟨he, hw''⟩ => by subst he; exact h _ _ hw'' h2
      | halt x w' => simp only [uponF] at h3
    · rw [if_neg (by rw [hw]; exact Bool.false_ne_true)]
      exact h _ _ (hv listed w hl hC) h2
theorem wpAny_of_F {Q : Array Bool → Act → Prop} {Q' : Exit → Act → World → Prop} (hQ : ∀ listed a w, C listed w → Q listed a → Q' .normal a w) : ∀ (fuel : Nat) (listed : Array Bool) (a : Act) (w : World), C listed w →
    wpAnyF P md ops C Q fuel listed a → wpAny P md ops Q' fuel listed a w
  | 0, _, _, _, hw, h => ⟨h.1, hQ _ _ _ hw h.2⟩
  | fuel + 1, listed, _, _, hw, h => ⟨fun h0 => hQ _ _ _ hw (h.1 h0), fun i hi => wpOp_of_qOpF hi hw (fun a' w' hw' => wpAny_of_F hQ fuel _ a' w' hw') (h.2 i hi)⟩
theorem YieldsF.of_same {i : Nat} {o : Oper} {v : Value} {a a' : Act} (hy : YieldsF P md ops C i o v a) (he : execOp a'.eval o = execOp a.eval o)
    (hw : Region.wanted o (yielded ops a'.tmps) = Region.wanted o (yielded ops a.tmps)) : YieldsF P md ops C i o v a' := by
  unfold YieldsF at *
  rw [he, hw]
  exact hy
theorem qOpF_put {i j : Nat} {oi oj : Oper} {v : Value} (hj : ops[j]? = some oj) (hap : oi.apart ops oj = true)
    (hsi : ∀ cs b, oi.op ≠ .select cs b) (hsj : ∀ cs b, oj.op ≠ .select cs b) {K : Act → Prop} {a : Act}
    (hy : YieldsF P md ops C i oi v a) (h : qOpF P md ops C j K (a.put oi.dst v)) :
    qOpF P md ops C j (fun a' => YieldsF P md ops C i oi v a' ∧ K (a'.put oi.dst v)) a := by
  obtain ⟨h1, h2, h3⟩ := Oper.apart_spec hap
  unfold qOpF at *
  simp only [hj] at *
  obtain ⟨u, hu, hn⟩ := h
  refine ⟨u, hu.of_same ?_ ?_, hy.of_same ?_ ?_, ?_⟩
  · exact (execOp_put oj hsj a oi.dst v h1).symm
  · exact (wanted_put oj a oi.dst v h1).symm
  · exact execOp_put oi hsi a oj.dst u h3
  · exact wanted_put oi a oj.dst u h3
  · rw [← Act.put_comm a v u h2]; exact hn
theorem wpAnyF_first {Q : Array Bool → Act → Prop} {i : Nat} {oi : Oper} {v : Value} (hi : ops[i]? = some oi) (hsel : ∀ (j : Nat) (o : Oper) cs b, ops[j]? = some o → o.op ≠ .select cs b) :
    ∀ (fuel : Nat) (listed : Array Bool) (a : Act),
      (∀ j oj, ops[j]? = some oj → j ≠ i → listed.getD j true = false → (∀ e ∈ oj.after, Region.binds md e = true → e.on ≠ i) → oi.apart ops oj = true) →
      i ∈ Region.ready md ops listed → YieldsF P md ops C i oi v a →
      wpAnyF P md ops C Q fuel (listed.setIfInBounds i true) (a.put oi.dst v) → wpAnyF P md ops C Q (fuel + 1) listed a := by
  intro fuel
  induction fuel with
  | zero =>
    intro listed a _ hr hy H
    refine ⟨fun h => (by rw [h] at hr; cases hr), fun j hj => ?_⟩
    by_cases hji : j = i
    · subst hji
      unfold qOpF; simp only [hi]
      exact ⟨v, hy, H⟩
    · have := ready_mono hj hji
      rw [H.1] at this
      cases this
  | succ fuel ih =>
    intro listed a hfree hr hy H
    refine ⟨fun h => (by rw [h] at hr; cases hr), fun j hj => ?_⟩
    by_cases hji : j = i
    · subst hji
      unfold qOpF; simp only [hi]
      exact ⟨v, hy, H⟩
    · have h1 := H.2 j (ready_mono hj hji)
      obtain ⟨hjun, oj, hoj, hall⟩ := mem_ready.1 hj
      have hnot : ∀ e ∈ oj.after, Region.binds md e = true → e.on ≠ i := fun e he hb heq => by
        have h1 := hall e he hb
        have h0 := (mem_ready.1 hr).1
        rw [heq] at h1
        rcases Nat.lt_or_ge i listed.size with h' | h'
        · simp [h'] at h0 h1; rw [h0] at h1; cases h1
        · simp [Array.getElem?_eq_none h'] at h1
      have h2 := qOpF_put hoj (hfree j oj hoj hji hjun hnot) (fun cs b => hsel i oi cs b hi) (fun cs b => hsel j oj cs b hoj) hy h1
      have hfree' : ∀ k ok, ops[k]? = some ok → k ≠ i → (listed.setIfInBounds j true).getD k true = false →
          (∀ e ∈ ok.after, Region.binds md e = true → e.on ≠ i) → oi.apart ops ok = true := fun k ok hk hki hun hno => by
        refine hfree k ok hk hki ?_ hno
        by_cases hjk : j = k
        · subst hjk; exact hjun
        · rw [getD_set_ne true hjk] at hun; exact hun
      refine qOpF_mono (fun a' h3 => ih (listed.setIfInBounds j true) a' hfree' (ready_mono hr (Ne.symm hji)) h3.1 ?_) h2
      rw [Array.setIfInBounds_comm _ _ hji]
      exact h3.2
/-- the walk in the order of the text, number k first -/
def wpF (P : Program) (md : Region.Mode) (ops : Array Oper) (C : Array Bool → World → Prop) (Q : Act → Prop) : List Oper → Nat → Act → Prop
  | [], _, a => Q a
  | o :: rest, k, a => ∃ v, YieldsF P md ops C k o v a ∧ wpF P md ops C Q rest (k + 1) (a.put o.dst v)
def setAll : Nat → Nat → Array Bool → Array Bool
  | 0, _, l => l
  | n + 1, k, l => setAll n (k + 1) (l.setIfInBounds k true)
theorem wpAnyF_lex {Q : Array Bool → Act → Prop} (hs : Region.noSelect ops = true) : ∀ (l : List Oper) (k : Nat) (listed : Array Bool) (a : Act), (∀ j, l[j]? = ops[k + j]?) →
    Region.lexFrom md ops l.length k listed = true → wpF P md ops C (Q (setAll l.length k listed)) l k a → wpAnyF P md ops C Q l.length listed a
  | [], _, _, _, _, hB, h => ⟨by simpa [Region.lexFrom] using hB, h⟩
  | o :: l, k, listed, a, hl, hB, h => by
    have h0 : ops[k]? = some o := by simpa using (hl 0).symm
    simp only [List.length_cons, Region.lexFrom, Bool.and_eq_true] at hB
    obtain ⟨⟨hr, hf⟩, hB'⟩ := hB
    obtain ⟨v, hy, hK⟩ := h
    exact wpAnyF_first h0 (Region.noSelect_spec hs) l.length listed a (Region.free_spec h0 hf) (by simpa using hr) hy
      (wpAnyF_lex hs l (k + 1) _ _ (fun j => by have := hl (j + 1); simpa [Nat.add_assoc, Nat.add_comm 1 j] using this) hB' hK)
theorem wp_region_F {id : Nat} {Q : Exit → Act → World → Prop} {a : Act} {w : World} {l : List Oper} (C : Array Bool → World → Prop) (hm : P.follows .mixedOrders = true) (hB : Region.lexB .any l.toArray = true)
    (hC : C (Array.replicate l.length false) { w with drawn := w.drawn + 1 })
    (h : wpF P .any l.toArray C (fun a' => ∀ w', C (setAll l.length 0 (Array.replicate l.length false)) w' → Q .normal a' w') l 0 a) : (Code.region id l.toArray true).wp P Q a w := by
  simp only [Region.lexB, Bool.and_eq_true] at hB
  refine wp_region_any hm (wpAny_of_F (C := C) (Q := fun listed a' => ∀ w', C listed w' → Q .normal a' w') (fun _ _ w' hw' h => h w' hw') _ _ _ _ (by simpa using hC) ?_)
  have := wpAnyF_lex (C := C) (md := .any) (Q := fun listed a' => ∀ w', C listed w' → Q .normal a' w') hB.1 l 0 (Array.replicate l.length false) a (by simp) (by simpa using hB.2) h
  simpa using this
end
/-! two flagged operations, numbers j1, j2 (a number that no operation bears: none) -/
/-- the operations that yield a value without entering a function -/
def isV : Op → Bool
  | .move _ | .assign _ | .pick .. | .build .. | .load .. | .binOp .. | .unOp .. | .convert .. | .slice .. | .fieldAddr .. | .field .. | .indexAddr .. | .index .. | .extract .. | .sliceToArrayPointer .. => true
  | _ => false
theorem run_v {P : Program} {s : Sem Value} {w w' : World} {n : Next} (h : (do pure (Next.value (← s)) : Sem Next).run P w = .ok n w') : ∃ u, n = .value u := by
  rw [Sem.run_bind] at h
  cases hs : s.run P w with
  | ok u w1 => rw [hs] at h; simp [Result.andThen] at h; exact ⟨u, h.1.symm⟩
  | halt x w1 => rw [hs] at h; simp [Result.andThen] at h
theorem isV_value {P : Program} {o : Oper} {ev : Operand → Value} {w w' : World} {n : Next} (hV : isV o.op = true) (h : (execOp ev o).run P w = .ok n w') : ∃ u, n = .value u := by
  unfold execOp at h
  cases ho : o.op <;> rw [ho] at h hV <;> simp only [isV, Bool.false_eq_true] at hV <;> dsimp only at h
  case move x => simp at h; exact ⟨_, h.1.symm⟩
  case assign x => simp at h; exact ⟨_, h.1.symm⟩
  case pick c x y =>
    rw [Sem.run_bind] at h
    cases hs : (asBool (ev c)).run P w with
    | ok u w1 => rw [hs] at h; simp [Result.andThen] at h; exact ⟨_, h.1.symm⟩
    | halt x w1 => rw [hs] at h; simp [Result.andThen] at h
  all_goals exact run_v h
structure FX (F : Bool → Bool → World → Prop) where
  W : World
  h : ∃ b1 b2, F b1 b2 W
section
variable {P : Program} {ops : Array Oper} {rest : List Oper} {o : Oper} {a : Act} {Q : Act → Prop} {F : Bool → Bool → World → Prop} {j1 j2 k : Nat} {md : Region.Mode}
theorem ready_after {i j : Nat} {oi : Oper} {listed : Array Bool} (hi : ops[i]? = some oi) (hd : (oi.after.any fun e => Region.binds md e && e.on == j) = true) (hr : i ∈ Region.ready md ops listed) : listed.getD j false = true := by
  obtain ⟨_, o', ho', hall⟩ := mem_ready.1 hr
  have : o' = oi := Option.some.inj (ho'.symm.trans hi)
  subst this
  obtain ⟨e, he, hb⟩ := Array.any_eq_true'.1 hd
  simp only [Bool.and_eq_true, beq_iff_eq] at hb
  rw [← hb.2]; exact hall e he hb.1
structure FX1 (F : Bool → Bool → World → Prop) where
  W : World
  h : ∃ b2, F true b2 W
theorem getD_on {listed : Array Bool} {i : Nat} (h : listed.getD i true = false) : listed.getD i false = false ∧ (listed.setIfInBounds i true).getD i false = true := by
  rcases Nat.lt_or_ge i listed.size with h' | h'
  · simp [h'] at h ⊢; exact h
  · simp [Array.getElem?_eq_none h'] at h
end
/-- the flagged operation is a call that makes just one block -/
def FNew (w0 : World) (t : TypeId) (cs : Array Value) : Bool → Bool → World → Prop := fun b1 _ W => Below w0.heap.size w0 W ∧ (b1 = false → W.heap.size = w0.heap.size) ∧ (b1 = true → Bx W w0.heap.size t cs)
theorem FNew.start (w0 : World) (t : TypeId) (cs : Array Value) : FNew w0 t cs false false w0.drew := ⟨(Below.refl _ _).drew, fun _ => rfl, (fun h => by cases h)⟩
theorem FNew.below {w0 : World} {t : TypeId} {cs : Array Value} (x : FX (FNew w0 t cs)) : Below w0.heap.size w0 x.W := by obtain ⟨W, b1, b2, h⟩ := x; exact h.1
instance (w0 : World) (t : TypeId) (cs : Array Value) : Nonempty (FX (FNew w0 t cs)) := ⟨⟨w0.drew, false, false, FNew.start w0 t cs⟩⟩
instance (w0 : World) (t : TypeId) (cs : Array Value) : Nonempty (FX1 (FNew w0 t cs)) := ⟨⟨w0.alloc (.cells cs t), false, (Below.refl _ _).alloc (Nat.le_refl _) _, (fun h => by cases h), fun _ => Bx.new _ _ _⟩⟩
theorem FNew.call {P : Program} {f : FuncId} {av : Array Value} {w0 : World} {t : TypeId} {cs : Array Value} {n c : Nat}
    (h : ∀ W, Calls P f av W (fun e w' => e = .returned (.slice (some ⟨W.heap.size, 0, none⟩) n c) ∧ Bx w' W.heap.size t cs ∧ Below W.heap.size W w')) (b2 : Bool) (W : World) (hW : FNew w0 t cs false b2 W) :
    Calls P f av W (fun e W' => e = .returned (.slice (some ⟨w0.heap.size, 0, none⟩) n c) ∧ FNew w0 t cs true b2 W') := by
  have hz := hW.2.1 rfl
  refine (h W).mono fun e w' ⟨h1, h2, h3⟩ => ?_
  rw [hz] at h1 h2
  exact ⟨h1, hW.1.trans (h3.mono (by rw [hz]; exact Nat.le_refl _)), (fun h => by cases h), fun _ => h2⟩
end Go.Proofs.Ytbfmdbeeiicabaa
namespace Go.Proofs.Ytbfmdbeeiicabaa
open Go Go.RowKit
def CN (F : (Nat → Bool) → World → Prop) : Array Bool → World → Prop := fun listed W => F (fun j => listed.getD j false) W
def Dep (F : (Nat → Bool) → World → Prop) (js : List Nat) : Prop := ∀ f g W, (∀ j ∈ js, f j = g j) → F f W → F g W
structure FXN (F : (Nat → Bool) → World → Prop) where
  W : World
  h : ∃ f, F f W
section
variable {P : Program} {ops : Array Oper} {rest : List Oper} {o : Oper} {a : Act} {Q : Act → Prop} {F : (Nat → Bool) → World → Prop} {js : List Nat} {k : Nat} {md : Region.Mode}
theorem CN.skip (hD : Dep F js) (hk : k ∉ js) {listed : Array Bool} {W : World} (hW : CN F listed W) : CN F (listed.setIfInBounds k true) W := by
  refine hD _ _ _ (fun j hj => ?_) hW
  have hne : k ≠ j := fun e => hk (e ▸ hj)
  rw [getD_set_ne false hne]
theorem wpN_read (hD : Dep F js) (hV : isV o.op = true) (hk : k ∉ js) (h : wpQuiet P ops (fun W => ∃ x : FXN F, W = x.W) (fun a' => wpF P md ops (CN F) Q rest (k + 1) a') [o] a) : wpF P md ops (CN F) Q (o :: rest) k a := by
  unfold wpQuiet at h
  split at h
  · rename_i hw
    obtain ⟨v, h1, h2⟩ := h
    refine ⟨v, .inl ⟨hw, fun listed W hl hW => ?_⟩, h2⟩
    have h3 := h1 W ⟨⟨W, _, hW⟩, rfl⟩
    unfold Oper.quietAt at h3
    cases hr : (execOp a.eval o).run P W with
    | ok n w' =>
      obtain ⟨u, rfl⟩ := isV_value hV hr
      rw [hr] at h3
      simp only [Oper.quietUpon] at h3
      simp only [uponF]
      obtain ⟨e1, e2⟩ := h3
      subst e1
      exact ⟨e2, hW.skip hD hk⟩
    | halt x w' => rw [hr] at h3; simp only [Oper.quietUpon] at h3
  · rename_i hw
    exact ⟨undef, .inr ⟨by simpa using hw, rfl, fun listed W hl hW => hW.skip hD hk⟩, h⟩
theorem wpN_store (hD : Dep F js) (ty : TypeId) (x y : Operand) (ho : o.op = .store ty x y) (hw : Region.wanted o (yielded ops a.tmps) = true) {p u : Value} (hx : a.eval x = p) (hy : a.eval y = u)
    (hs : ∀ f W, F f W → ∃ W', (Instr.storeAt ty p u).run P W = .ok () W' ∧ F (fun i => i == k || f i) W') (h : wpF P md ops (CN F) Q rest (k + 1) (a.put o.dst undef)) : wpF P md ops (CN F) Q (o :: rest) k a := by
  refine ⟨undef, .inl ⟨hw, fun listed W hl hW => ?_⟩, h⟩
  obtain ⟨W', h1, h2⟩ := hs _ W hW
  unfold execOp
  simp only [ho, hx, hy, Sem.run_bind, h1, Result.andThen_ok, Sem.run_pure, uponF, true_and]
  refine hD _ _ _ (fun j hj => ?_) h2
  by_cases hjk : j = k
  · subst hjk
    rw [(getD_on (mem_ready.1 hl).1).2]; simp
  · have hne : k ≠ j := Ne.symm hjk
    rw [getD_set_ne false hne]; simp [hjk]
end
theorem wp_region_N {P : Program} {id : Nat} {Q : Exit → Act → World → Prop} {a : Act} {w : World} {l : List Oper} (F : (Nat → Bool) → World → Prop) (js : List Nat) (hD : Dep F js) (hm : P.follows .mixedOrders = true) (hB : Region.lexB .any l.toArray = true)
    (hf : (js.all fun j => (setAll l.length 0 (Array.replicate l.length false)).getD j false) = true)
    (hC : F (fun _ => false) w.drew)
    (h : wpF P .any l.toArray (CN F) (fun a' => ∀ w', F (fun _ => true) w' → Q .normal a' w') l 0 a) : (Code.region id l.toArray true).wp P Q a w := by
  have e : ∀ j, (Array.replicate l.length false).getD j false = false := fun j => getD_replicate_false _ _
  refine wp_region_F (CN F) hm hB ?_ ?_
  · exact hD _ _ _ (fun j _ => (e j).symm) hC
  · have e2 : ∀ w', CN F (setAll l.length 0 (Array.replicate l.length false)) w' → F (fun _ => true) w' := fun w' h' => hD _ _ _ (fun j hj => by simpa using List.all_eq_true.1 hf j hj) h'
    have mono : ∀ (r : List Oper) (k : Nat) (a' : Act), wpF P .any l.toArray (CN F) (fun a' => ∀ w', F (fun _ => true) w' → Q .normal a' w') r k a' → wpF P .any l.toArray (CN F) (fun a' => ∀ w', CN F (setAll l.length 0 (Array.replicate l.length false)) w' → Q .normal a' w') r k a' := by
      intro r
      induction r with
      | nil => intro k a' h0 w' h'; exact h0 w' (e2 w' h')
      | cons o r ih => intro k a' h0; obtain ⟨v, h1, h2⟩ := h0; exact ⟨v, h1, ih _ _ h2⟩
    exact mono l 0 a h
end Go.Proofs.Ytbfmdbeeiicabaa
namespace Go.Proofs.Ytbfmdbeeiicabaa
open Go Go.RowKit
/-- a block, and the store number k that makes 'new' of 'old' -/
structure Bk where
  g : Nat
  t : TypeId
  k : Nat
  old : Array Value
  new : Array Value
def FBx (w0 : World) (B : Nat) (L : List Bk) : (Nat → Bool) → World → Prop := fun f W => Below B w0 W ∧ ∀ p ∈ L, Bx W p.g p.t (if f p.k = true then p.new else p.old)
section
variable {w0 : World} {B : Nat} {L : List Bk} {js : List Nat}
theorem FBx.dep (h : ∀ p ∈ L, p.k ∈ js) : Dep (FBx w0 B L) js := by
  rintro f g W hfg ⟨h1, h2⟩
  exact ⟨h1, fun p hp => by rw [← hfg p.k (h p hp)]; exact h2 p hp⟩
theorem FBx.start {W : World} (h1 : Below B w0 W) (h2 : ∀ p ∈ L, Bx W p.g p.t p.old) : FBx w0 B L (fun _ => false) W.drew := ⟨h1.drew, fun p hp => by rw [if_neg (by simp)]; exact h2 p hp⟩
theorem FBx.done {W : World} (h : FBx w0 B L (fun _ => true) W) : Below B w0 W ∧ ∀ p ∈ L, Bx W p.g p.t p.new := ⟨h.1, fun p hp => by have := h.2 p hp; rwa [if_pos rfl] at this⟩
theorem FBx.cell (p : Bk) (hp : p ∈ L) (he : p.old = p.new) (x : FXN (FBx w0 B L)) (i : Nat) : x.W.cell? ⟨p.g, i, none⟩ = p.old[i]? := by
  obtain ⟨W, f, h⟩ := x
  have := h.2 p hp
  rw [← he] at this
  split at this <;> exact this.cell i
theorem FBx.base (x : FXN (FBx w0 B L)) : Below B w0 x.W := by obtain ⟨W, f, h⟩ := x; exact h.1
variable {P : Program} {k : Nat}
theorem FBx.step1 (p : Bk) (hp : p ∈ L) (hB : B ≤ p.g) (hk : p.k = k) {q : Nat} {u u0 u1 : Value} (ho : p.old[q]? = some u0) (hn : p.new[q]? = some u1) (h1 : p.old.setIfInBounds q u = p.new) (h2 : p.new.setIfInBounds q u = p.new)
    (hoth : ∀ p' ∈ L, p' = p ∨ (p'.g ≠ p.g ∧ (p'.k ≠ k ∨ p'.old = p'.new))) {ty : TypeId}
    (hs : ∀ (W : World) (u0 : Value), W.cell? ⟨p.g, q, none⟩ = some u0 → W.frozen? ⟨p.g, q, none⟩ = false → (Instr.storeAt ty (.pointer (some ⟨p.g, q, none⟩)) u).run P W = .ok () (W.setCell ⟨p.g, q, none⟩ u))
    (f : Nat → Bool) (W : World) (h : FBx w0 B L f W) : ∃ W', (Instr.storeAt ty (.pointer (some ⟨p.g, q, none⟩)) u).run P W = .ok () W' ∧ FBx w0 B L (fun i => i == k || f i) W' := by
  have hb := h.2 p hp
  have hc : ∃ v, W.cell? ⟨p.g, q, none⟩ = some v := by
    rw [hb.cell]; split
    · exact ⟨_, hn⟩
    · exact ⟨_, ho⟩
  obtain ⟨v, hc⟩ := hc
  refine ⟨_, hs W v hc (hb.free q), h.1.setCell (p := ⟨p.g, q, none⟩) hB _, fun p' hp' => ?_⟩
  rcases hoth p' hp' with rfl | ⟨e1, e2⟩
  · have := hb.set (i := q) u
    rw [if_pos (by simp [hk])]
    split at this
    · rwa [h2] at this
    · rwa [h1] at this
  · have := (h.2 p' hp').far (p := ⟨p.g, q, none⟩) e1 u
    rcases e2 with e2 | e2
    · simp only [show (p'.k == k) = false by rw [beq_eq_false_iff_ne]; exact e2, Bool.false_or]; exact this
    · rw [e2] at this ⊢
      split at this <;> split <;> exact this
theorem FBx.stepRow (p : Bk) (hp : p ∈ L) (hB : B ≤ p.g) (hk : p.k = k) {q : Nat} {cells : Array Value} (ho : q + cells.size ≤ p.old.size) (hn : q + cells.size ≤ p.new.size) (h1 : putL p.old q cells.toList = p.new) (h2 : putL p.new q cells.toList = p.new)
    (hoth : ∀ p' ∈ L, p' = p ∨ (p'.g ≠ p.g ∧ (p'.k ≠ k ∨ p'.old = p'.new))) {ty : TypeId} (hi : (P.info? ty).map (·.size) = some cells.size) (hc1 : cells.all (·.oneCell') = true)
    (f : Nat → Bool) (W : World) (h : FBx w0 B L f W) : ∃ W', (Instr.storeAt ty (.pointer (some ⟨p.g, q, none⟩)) (.agg cells)).run P W = .ok () W' ∧ FBx w0 B L (fun i => i == k || f i) W' := by
  have hb := h.2 p hp
  have ht : W.there p.g q cells.size := fun j hj => by
    refine ⟨?_, hb.free _⟩
    rw [hb.cell]
    split
    · rw [Array.getElem?_eq_getElem (by omega)]; rfl
    · rw [Array.getElem?_eq_getElem (by omega)]; rfl
  refine ⟨_, run_storeAt_mid (P := P) W p.g q ty cells ht hi hc1, below_setCells hB _ _ _ h.1, fun p' hp' => ?_⟩
  rcases hoth p' hp' with rfl | ⟨e1, e2⟩
  · have := Bx.setCells cells.toList q hb
    rw [if_pos (by simp [hk])]
    split at this
    · rwa [h2] at this
    · rwa [h1] at this
  · have := setCells_far e1 cells.toList q W (h.2 p' hp')
    rcases e2 with e2 | e2
    · simp only [show (p'.k == k) = false by rw [beq_eq_false_iff_ne]; exact e2, Bool.false_or]; exact this
    · rw [e2] at this ⊢
      split at this <;> split <;> exact this
end
section
variable {P : Program} {ops : Array Oper} {rest : List Oper} {o : Oper} {a : Act} {Q : Act → Prop} {F : (Nat → Bool) → World → Prop} {js : List Nat} {k : Nat} {md : Region.Mode}
/-- len(..) -/
theorem wpN_len (hD : Dep F js) {x : Operand} {ats : Array TypeId} (ho : o.op = .call { callee := .builtin .len, args := #[x], argTypes := ats }) (hk : k ∉ js) (hw : Region.wanted o (yielded ops a.tmps) = true) {v : Value}
    (hl : ∀ W, (Builtin.len_ ats o.type #[a.eval x]).run P W = .ok v W) (h : wpF P md ops (CN F) Q rest (k + 1) (a.put o.dst v)) : wpF P md ops (CN F) Q (o :: rest) k a := by
  refine ⟨v, .inl ⟨hw, fun listed W hl' hW => ?_⟩, h⟩
  have : (execOp a.eval o).run P W = .ok (.value v) W := by
    simp [execOp, ho, resolve, invoke, builtin, hl]
  rw [this]
  exact ⟨rfl, hW.skip hD hk⟩
/-- an operation that is passed over -/
theorem wpN_skip (hD : Dep F js) (hk : k ∉ js) (hw : Region.wanted o (yielded ops a.tmps) = false) (h : wpF P md ops (CN F) Q rest (k + 1) (a.put o.dst undef)) : wpF P md ops (CN F) Q (o :: rest) k a :=
  ⟨undef, .inr ⟨hw, rfl, fun listed W hl hW => hW.skip hD hk⟩, h⟩
end
theorem store_bool {P : Program} {ty : TypeId} (hi : (P.info? ty).map (·.size) = some 1) (W : World) (ad : Addr) (u0 : Value) (b : Bool) (hc : W.cell? ad = some u0) (hf : W.frozen? ad = false) : (Instr.storeAt ty (.pointer (some ad)) (.bool b)).run P W = .ok () (W.setCell ad (.bool b)) := by
  obtain ⟨i, hi', e⟩ := Option.map_eq_some_iff.1 hi
  simp [go_sem, hc, hf, sizeOf, typeInfo, hi', e]
end Go.Proofs.Ytbfmdbeeiicabaa
namespace Go.Proofs.Ytbfmdbeeiicabaa
open Go Go.RowKit
section
variable {P : Program} {ops : Array Oper} {rest : List Oper} {o : Oper} {a : Act} {Q : Act → Prop} {F : (Nat → Bool) → World → Prop} {js : List Nat} {k : Nat} {md : Region.Mode}
theorem run_append_rd {w : World} {t ty e B sz by_ : Nat} {v lv z : Value} {n m : Nat} {xs ys : List Value} (ht : P.underlying t = some (.slice e))
    (hi : (P.info? e).map (fun i => (i.zero, i.size, i.bytes)) = some (some z, sz, by_)) (hzs : z.cells.size = sz) (hsz : 0 < sz)
    (hown : w.ownsRow B e sz v n xs) (hrd : Rd w sz lv m ys) (h1 : ∀ u ∈ ys, u.oneCell' = true) (h63 : n + m ≤ 9223372036854775807) (hbytes : (n + m) * by_ ≤ 140737488355328) (hB : B ≤ w.heap.size) :
    ∃ v' w', (Builtin.append_ #[t, t] ty #[v, lv]).run P w = .ok v' w' ∧ w'.ownsRow B e sz v' (n + m) (xs ++ ys) ∧ w.grownBy w' v.ownBlock := by
  obtain ⟨i, hi1, hi2, hi3, hi4⟩ := info3 hi
  obtain ⟨A, c, rfl, s1, s2, s3, s4, s5⟩ := hrd
  rcases A with _ | ad
  · have hc := s4 rfl
    have hm : m = 0 := by omega
    subst hc; subst hm
    have hy : ys = [] := List.eq_nil_of_length_eq_zero (by simpa using s3)
    subst hy
    exact ⟨v, w, run_append_owned_none (P := P) w B t ty e i sz ht hi1 v n xs hown, by simpa using hown, World.grownBy.refl w _⟩
  · obtain ⟨b, q, sp⟩ := ad
    have hcell : ∀ j u, ys[j]? = some u → w.cell? ((⟨b, q, sp⟩ : Addr).add j) = some u := by
      intro j u hu
      have hm : 0 < m := by
        rcases Nat.eq_zero_or_pos m with h0 | h0
        · subst h0
          have : ys = [] := List.eq_nil_of_length_eq_zero (by simpa using s3)
          subst this; simp at hu
        · exact h0
      obtain ⟨p1, p2, p3⟩ := s5 hm _ rfl
      simp at p1; subst p1
      rw [show ((⟨b, q, none⟩ : Addr).add j) = ⟨b, q + j, none⟩ by unfold Addr.add; split <;> simp_all]
      exact p3 j u hu
    obtain ⟨v', w', hrun, r1, r2, _⟩ := run_append_own (P := P) w B t ty e i z sz by_ ht hi1 hi2 hi3 hi4 hzs hsz v n xs hown ⟨b, q, sp⟩ m c ys s3 hcell h1 (by unfold maxLen; omega) hbytes hB
    exact ⟨v', w', hrun, r1, r2⟩
end
/-- one of five worlds, by which of four operations are done, one behind the other -/
def FCh (k1 k2 k3 k4 : Nat) (W0 W1 W2 W3 W4 : World) : (Nat → Bool) → World → Prop := fun f W =>
  (f k2 = true → f k1 = true) ∧ (f k3 = true → f k2 = true) ∧ (f k4 = true → f k3 = true) ∧ W = (if f k4 = true then W4 else if f k3 = true then W3 else if f k2 = true then W2 else if f k1 = true then W1 else W0)
section
variable {k1 k2 k3 k4 : Nat} {W0 W1 W2 W3 W4 : World}
theorem FCh.dep : Dep (FCh k1 k2 k3 k4 W0 W1 W2 W3 W4) [k1, k2, k3, k4] := by
  rintro f g W hfg ⟨h1, h2, h3, h4⟩
  have e1 := hfg k1 (by simp); have e2 := hfg k2 (by simp); have e3 := hfg k3 (by simp); have e4 := hfg k4 (by simp)
  rw [e1, e2] at h1; rw [e2, e3] at h2; rw [e3, e4] at h3; rw [e1, e2, e3, e4] at h4
  exact ⟨h1, h2, h3, h4⟩
theorem FCh.start : FCh k1 k2 k3 k4 W0 W1 W2 W3 W4 (fun _ => false) W0 := ⟨by simp, by simp, by simp, by simp⟩
theorem FCh.done {W : World} (h : FCh k1 k2 k3 k4 W0 W1 W2 W3 W4 (fun _ => true) W) : W = W4 := by have := h.2.2.2; simpa using this
theorem no_of {b c : Bool} (h : b = true → c = true) (hc : c = false) : b = false := by cases b; rfl; rw [h rfl] at hc; cases hc
theorem FCh.s1 (hk : k1 ≠ k2 ∧ k1 ≠ k3 ∧ k1 ≠ k4) {f : Nat → Bool} {W : World} (h : FCh k1 k2 k3 k4 W0 W1 W2 W3 W4 f W) (h0 : f k1 = false) : W = W0 ∧ FCh k1 k2 k3 k4 W0 W1 W2 W3 W4 (fun i => i == k1 || f i) W1 := by
  obtain ⟨a1, a2, a3, a4⟩ := h
  have b2 := no_of a1 h0; have b3 := no_of a2 b2; have b4 := no_of a3 b3
  refine ⟨by rw [a4]; simp [h0, b2, b3, b4], by simp, ?_, ?_, ?_⟩
  · simp only [b3, Bool.or_false]; intro h; rw [beq_iff_eq] at h; exact absurd h.symm hk.2.1
  · simp only [b4, Bool.or_false]; intro h; rw [beq_iff_eq] at h; exact absurd h.symm hk.2.2
  · have e2 : (k2 == k1) = false := by rw [beq_eq_false_iff_ne]; exact hk.1.symm
    have e3 : (k3 == k1) = false := by rw [beq_eq_false_iff_ne]; exact hk.2.1.symm
    have e4 : (k4 == k1) = false := by rw [beq_eq_false_iff_ne]; exact hk.2.2.symm
    simp [b2, b3, b4, e2, e3, e4]
theorem FCh.s2 (hk : k2 ≠ k1 ∧ k2 ≠ k3 ∧ k2 ≠ k4) {f : Nat → Bool} {W : World} (h : FCh k1 k2 k3 k4 W0 W1 W2 W3 W4 f W) (h0 : f k2 = false) (h1 : f k1 = true) : W = W1 ∧ FCh k1 k2 k3 k4 W0 W1 W2 W3 W4 (fun i => i == k2 || f i) W2 := by
  obtain ⟨a1, a2, a3, a4⟩ := h
  have b3 := no_of a2 h0; have b4 := no_of a3 b3
  have e1 : (k1 == k2) = false := by rw [beq_eq_false_iff_ne]; exact hk.1.symm
  have e3 : (k3 == k2) = false := by rw [beq_eq_false_iff_ne]; exact hk.2.1.symm
  have e4 : (k4 == k2) = false := by rw [beq_eq_false_iff_ne]; exact hk.2.2.symm
  exact ⟨by rw [a4]; simp [h0, h1, b3, b4], by simp [h1], by simp, by simp [b4, e4], by simp [b3, b4, e3, e4]⟩
theorem FCh.s3 (hk : k3 ≠ k1 ∧ k3 ≠ k2 ∧ k3 ≠ k4) {f : Nat → Bool} {W : World} (h : FCh k1 k2 k3 k4 W0 W1 W2 W3 W4 f W) (h0 : f k3 = false) (h1 : f k2 = true) : W = W2 ∧ FCh k1 k2 k3 k4 W0 W1 W2 W3 W4 (fun i => i == k3 || f i) W3 := by
  obtain ⟨a1, a2, a3, a4⟩ := h
  have b4 := no_of a3 h0
  have e4 : (k4 == k3) = false := by rw [beq_eq_false_iff_ne]; exact hk.2.2.symm
  exact ⟨by rw [a4]; simp [h0, h1, b4], by simp [a1 h1], by simp [h1], by simp, by simp [b4, e4]⟩
theorem FCh.s4 (hk : k4 ≠ k1 ∧ k4 ≠ k2 ∧ k4 ≠ k3) {f : Nat → Bool} {W : World} (h : FCh k1 k2 k3 k4 W0 W1 W2 W3 W4 f W) (h0 : f k4 = false) (h1 : f k3 = true) : W = W3 ∧ FCh k1 k2 k3 k4 W0 W1 W2 W3 W4 (fun i => i == k4 || f i) W4 := by
  obtain ⟨a1, a2, a3, a4⟩ := h
  exact ⟨by rw [a4]; simp [h0, h1], by simp [a1 (a2 h1)], by simp [a2 h1], by simp [h1], by simp⟩
end
/-- one of four worlds, by which of three operations are done, one behind the other -/
def FC3 (k1 k2 k3 : Nat) (W0 W1 W2 W3 : World) : (Nat → Bool) → World → Prop := fun f W =>
  (f k2 = true → f k1 = true) ∧ (f k3 = true → f k2 = true) ∧ W = (if f k3 = true then W3 else if f k2 = true then W2 else if f k1 = true then W1 else W0)
section
variable {k1 k2 k3 : Nat} {W0 W1 W2 W3 : World}
theorem FC3.dep : Dep (FC3 k1 k2 k3 W0 W1 W2 W3) [k1, k2, k3] := by
  rintro f g W hfg ⟨h1, h2, h4⟩
  have e1 := hfg k1 (by simp); have e2 := hfg k2 (by simp); have e3 := hfg k3 (by simp)
  rw [e1, e2] at h1; rw [e2, e3] at h2; rw [e1, e2, e3] at h4
  exact ⟨h1, h2, h4⟩
theorem FC3.start : FC3 k1 k2 k3 W0 W1 W2 W3 (fun _ => false) W0 := ⟨by simp, by simp, by simp⟩
theorem FC3.done {W : World} (h : FC3 k1 k2 k3 W0 W1 W2 W3 (fun _ => true) W) : W = W3 := by have := h.2.2; simpa using this
theorem FC3.s1 (hk : k1 ≠ k2 ∧ k1 ≠ k3) {f : Nat → Bool} {W : World} (h : FC3 k1 k2 k3 W0 W1 W2 W3 f W) (h0 : f k1 = false) : W = W0 ∧ FC3 k1 k2 k3 W0 W1 W2 W3 (fun i => i == k1 || f i) W1 := by
  obtain ⟨a1, a2, a4⟩ := h
  have b2 := no_of a1 h0; have b3 := no_of a2 b2
  have e2 : (k2 == k1) = false := by rw [beq_eq_false_iff_ne]; exact hk.1.symm
  have e3 : (k3 == k1) = false := by rw [beq_eq_false_iff_ne]; exact hk.2.symm
  exact ⟨by rw [a4]; simp [h0, b2, b3], by simp, by simp [b3, e3], by simp [b2, b3, e2, e3]⟩
theorem FC3.s2 (hk : k2 ≠ k1 ∧ k2 ≠ k3) {f : Nat → Bool} {W : World} (h : FC3 k1 k2 k3 W0 W1 W2 W3 f W) (h0 : f k2 = false) (h1 : f k1 = true) : W = W1 ∧ FC3 k1 k2 k3 W0 W1 W2 W3 (fun i => i == k2 || f i) W2 := by
  obtain ⟨a1, a2, a4⟩ := h
  have b3 := no_of a2 h0
  have e3 : (k3 == k2) = false := by rw [beq_eq_false_iff_ne]; exact hk.2.symm
  exact ⟨by rw [a4]; simp [h0, h1, b3], by simp [h1], by simp, by simp [b3, e3]⟩
theorem FC3.s3 (hk : k3 ≠ k1 ∧ k3 ≠ k2) {f : Nat → Bool} {W : World} (h : FC3 k1 k2 k3 W0 W1 W2 W3 f W) (h0 : f k3 = false) (h1 : f k2 = true) : W = W2 ∧ FC3 k1 k2 k3 W0 W1 W2 W3 (fun i => i == k3 || f i) W3 := by
  obtain ⟨a1, a2, a4⟩ := h
  exact ⟨by rw [a4]; simp [h0, h1], by simp [a1 h1], by simp [h1], by simp⟩
end
end Go.Proofs.Ytbfmdbeeiicabaa
namespace Go.Proofs.Ytbfmdbeeiicabaa
open Go Go.RowKit
/-- the first d of the operations ks are done, the world is Ws d; the read r comes before the operation number m. -/
def FL (ks : List Nat) (Ws : Nat → World) (r m : Nat) : (Nat → Bool) → World → Prop := fun f W =>
  ∃ d, d ≤ ks.length ∧ (∀ i k, ks[i]? = some k → f k = decide (i < d)) ∧ W = Ws d ∧ (m < d → f r = true)
section
variable {ks : List Nat} {Ws : Nat → World} {r m : Nat}
theorem FL.dep : Dep (FL ks Ws r m) (r :: ks) := by
  rintro f g W hfg ⟨d, h1, h2, h3, h4⟩
  refine ⟨d, h1, fun i k hk => ?_, h3, fun hm => ?_⟩
  · rw [← hfg k (List.mem_cons_of_mem _ (List.mem_of_getElem? hk))]; exact h2 i k hk
  · rw [← hfg r List.mem_cons_self]; exact h4 hm
theorem FL.start : FL ks Ws r m (fun _ => false) (Ws 0) := ⟨0, Nat.zero_le _, fun i k _ => by simp, rfl, fun h => by omega⟩
theorem FL.done {W : World} (h : FL ks Ws r m (fun _ => true) W) : W = Ws ks.length := by
  obtain ⟨d, h1, h2, h3, h4⟩ := h
  rw [h3]
  congr 1
  by_cases hd : d = ks.length
  · exact hd
  · have hlt : d < ks.length := by omega
    have := h2 d ks[d] (List.getElem?_eq_getElem hlt)
    simp at this
theorem FL.step {i k : Nat} (hk : ks[i]? = some k) (hn : ks.Nodup) {f : Nat → Bool} {W : World} (h : FL ks Ws r m f W) (h0 : f k = false) (hp : ∀ p, i = p + 1 → ∀ k', ks[p]? = some k' → f k' = true) (hm : i = m → f r = true) :
    W = Ws i ∧ FL ks Ws r m (fun j => j == k || f j) (Ws (i + 1)) := by
  obtain ⟨d, h1, h2, h3, h4⟩ := h
  have hil : i < ks.length := (List.getElem?_eq_some_iff.1 hk).1
  have hd1 : ¬ i < d := by have := h2 i k hk; rw [h0] at this; simpa using this.symm
  have hd2 : i ≤ d := by
    rcases i with _ | p
    · omega
    · have hp' : ks[p]? = some ks[p] := List.getElem?_eq_getElem (by omega)
      have e1 := hp p rfl _ hp'
      rw [h2 p _ hp'] at e1
      have := of_decide_eq_true e1
      omega
  obtain rfl : d = i := by omega
  refine ⟨h3, d + 1, by omega, fun j k' hk' => ?_, rfl, fun hmd => ?_⟩
  · by_cases hj : j = d
    · subst hj
      rw [hk] at hk'; injection hk' with hk'; subst hk'
      simp
    · have hne : k' ≠ k := fun e => by
        subst e
        exact hj ((List.getElem?_inj (List.getElem?_eq_some_iff.1 hk').1 hn).1 (hk'.trans hk.symm))
      have e1 : (k' == k) = false := by rw [beq_eq_false_iff_ne]; exact hne
      simp only [e1, Bool.false_or]
      rw [h2 j k' hk']
      have : (j < d) = (j < d + 1) := by rw [eq_iff_iff]; omega
      simp only [this]
  · by_cases hmi : d = m
    · simp [hm hmi]
    · simp [h4 (by omega)]
theorem FL.prev {p q : Nat} {f : Nat → Bool} (hq : ks[p]? = some q) (h : f q = true) : ∀ p', p + 1 = p' + 1 → ∀ k', ks[p']? = some k' → f k' = true := by
  intro p' hp k' hk
  obtain rfl : p = p' := by omega
  rw [hq] at hk; injection hk with hk; subst hk; exact h
theorem FL.read (hr : r ∉ ks) {f : Nat → Bool} {W : World} (h : FL ks Ws r m f W) (h0 : f r = false) : (∃ d, d ≤ ks.length ∧ d ≤ m ∧ W = Ws d) ∧ FL ks Ws r m (fun j => j == r || f j) W := by
  obtain ⟨d, h1, h2, h3, h4⟩ := h
  have hdm : d ≤ m := by
    rcases Nat.lt_or_ge m d with h | h
    · rw [h4 h] at h0; cases h0
    · exact h
  refine ⟨⟨d, h1, hdm, h3⟩, d, h1, fun i k hk => ?_, h3, fun _ => by simp⟩
  have hne : (k == r) = false := by rw [beq_eq_false_iff_ne]; exact fun e => hr (e ▸ List.mem_of_getElem? hk)
  simp only [hne, Bool.false_or]
  exact h2 i k hk
theorem FL.agree {Ws' : Nat → World} {k0 : Nat} (hk : ks[0]? = some k0) (h0 : Ws 0 = Ws' 0) {f : Nat → Bool} {W : World} (hf : f k0 = false) (h : FL ks Ws r m f W) : FL ks Ws' r m f W := by
  obtain ⟨d, h1, h2, h3, h4⟩ := h
  have := h2 0 k0 hk
  rw [hf] at this
  have hd : d = 0 := by
    rcases Nat.eq_zero_or_pos d with h | h
    · exact h
    · rw [decide_eq_true h] at this; cases this
  subst hd
  exact ⟨0, h1, h2, h3.trans h0, h4⟩
theorem FL.all {p : World → Prop} (h : ∀ d, d ≤ ks.length → p (Ws d)) (x : FXN (FL ks Ws r m)) : p x.W := by
  obtain ⟨W, f, d, h1, _, h3, _⟩ := x
  subst h3; exact h d h1
end
section
variable {P : Program} {ops : Array Oper} {rest : List Oper} {o : Oper} {a : Act} {Q : Act → Prop} {F : (Nat → Bool) → World → Prop} {js : List Nat} {k : Nat} {md : Region.Mode}
/-- a store, where others that it waits for are done -/
theorem wpN_storeD (hD : Dep F js) (hi : ops[k]? = some o) (ty : TypeId) (px py : Operand) (ho : o.op = .store ty px py) (hw : Region.wanted o (yielded ops a.tmps) = true) {p u : Value} (hx : a.eval px = p) (hy : a.eval py = u) (dep : List Nat) (hd : (dep.all fun j => o.after.any fun e => Region.binds md e && e.on == j) = true)
    (hs : ∀ f W, F f W → f k = false → (∀ j ∈ dep, f j = true) → ∃ W', (Instr.storeAt ty p u).run P W = .ok () W' ∧ F (fun i => i == k || f i) W') (h : wpF P md ops (CN F) Q rest (k + 1) (a.put o.dst undef)) : wpF P md ops (CN F) Q (o :: rest) k a := by
  refine ⟨undef, .inl ⟨hw, fun listed W hl hW => ?_⟩, h⟩
  have hk : listed.getD k false = false := by
    have h1 := (mem_ready.1 hl).1
    rcases Nat.lt_or_ge k listed.size with h' | h'
    · simp [h'] at h1 ⊢; exact h1
    · simp [Array.getElem?_eq_none h'] at h1 
  obtain ⟨W', h1, h2⟩ := hs _ W hW hk (fun j hj => ready_after hi (List.all_eq_true.1 hd j hj) hl)
  unfold execOp
  simp only [ho, hx, hy, Sem.run_bind, h1, Result.andThen_ok, Sem.run_pure, uponF, true_and]
  refine hD _ _ _ (fun j hj => ?_) h2
  by_cases hjk : j = k
  · subst hjk
    rw [(getD_on (mem_ready.1 hl).1).2]; simp
  · have hne : k ≠ j := Ne.symm hjk
    rw [getD_set_ne false hne]; simp [hjk]
end
end Go.Proofs.Ytbfmdbeeiicabaa
