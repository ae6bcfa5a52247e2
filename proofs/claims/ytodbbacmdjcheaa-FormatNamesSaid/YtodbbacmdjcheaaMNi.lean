/- Contracts of the functions that the laws 'N' reach, part 9. No condition. -/
import Derived.Test.YtodbbacmdjcheaaMNh
set_option linter.unusedVariables false
set_option linter.unusedSimpArgs false
namespace Go.Proofs.Ytodbbacmdjcheaa
open Go.RowKit L01 L02 L18
def slC (s : Sl) : List Value := [.int .i64 s.gen, .bool s.used, .int .i64 s.at_]
def tabL (L : List Sl) : List Value := L.flatMap slC
def tab (L : List Sl) : Array Value := (tabL L).toArray
def tabOf (l : List UInt64) : List Sl := if openErr l = 0 then slots l else List.replicate 16 .none
theorem tabL_len (L : List Sl) : (tabL L).length = L.length * 3 := by
  induction L with
  | nil => rfl
  | cons s L ih => rw [tabL, List.flatMap_cons, List.length_append, ← tabL, ih]; simp [slC]; omega
theorem tabL_get : ∀ (L : List Sl) (k : Nat) (s : Sl), L[k]? = some s → ∀ i, i < 3 → (tabL L)[k * 3 + i]? = (slC s)[i]?
  | [], _, _, h, _, _ => by cases h
  | t :: L, 0, s, h, i, hi => by
    simp at h; subst h
    rw [tabL, List.flatMap_cons, Nat.zero_mul, Nat.zero_add, List.getElem?_append_left (by simpa [slC] using hi)]
  | t :: L, k + 1, s, h, i, hi => by
    rw [tabL, List.flatMap_cons, List.getElem?_append_right (by simp [slC]; omega)]
    rw [show (k + 1) * 3 + i - (slC t).length = k * 3 + i by simp [slC]; omega]
    exact tabL_get L k s (by simpa using h) i hi
theorem tabL_one (L : List Sl) : ∀ u ∈ tabL L, u.oneCell' = true := by
  intro u hu
  obtain ⟨s, _, hs⟩ := List.mem_flatMap.1 hu
  simp [slC] at hs
  rcases hs with rfl | rfl | rfl <;> rfl
theorem tab_size (L : List Sl) : (tab L).size = L.length * 3 := by simp [tab, tabL_len]
theorem ws_len {l : List UInt64} (h : SizeOk l.length) : (ws l).length = 16 := by
  have := h.1; simp [ws]; omega
theorem ws_get {l : List UInt64} {k : Nat} {x : UInt64} (hk : k < 16) (h : l[112 + k]? = some x) : (ws l)[k]? = some x := by
  rw [ws, List.getElem?_take, if_pos hk, List.getElem?_drop]; exact h
theorem slots_len {l : List UInt64} (h : SizeOk l.length) : (slots l).length = 16 := by rw [slots, List.length_map, ws_len h]
theorem tabOf_len (l : List UInt64) : (tabOf l).length = 16 := by
  unfold tabOf
  split
  · rename_i h
    unfold openErr at h
    split at h
    · exact slots_len ‹_›
    · omega
  · simp
theorem tabOf_size (l : List UInt64) : (tab (tabOf l)).size = 48 := by rw [tab_size, tabOf_len]
theorem size_table : (Try.prog.info? 146).map (·.size) = some 48 := by kernel_rfl
theorem size_slot : (Try.prog.info? 56).map (·.size) = some 3 := by kernel_rfl
theorem z48_one : (#[.int .i64 0, .bool false, .int .i64 0, .int .i64 0, .bool false, .int .i64 0, .int .i64 0, .bool false, .int .i64 0, .int .i64 0, .bool false, .int .i64 0, .int .i64 0, .bool false, .int .i64 0, .int .i64 0, .bool false, .int .i64 0, .int .i64 0, .bool false, .int .i64 0, .int .i64 0, .bool false, .int .i64 0, .int .i64 0, .bool false, .int .i64 0, .int .i64 0, .bool false, .int .i64 0, .int .i64 0, .bool false, .int .i64 0, .int .i64 0, .bool false, .int .i64 0, .int .i64 0, .bool false, .int .i64 0, .int .i64 0, .bool false, .int .i64 0, .int .i64 0, .bool false, .int .i64 0, .int .i64 0, .bool false, .int .i64 0] : Array Value).all (·.oneCell') = true := by simp [Value.oneCell']
theorem slot_one (s : Sl) : (#[.int .i64 s.gen, .bool s.used, .int .i64 s.at_] : Array Value).all (·.oneCell') = true := by simp [Value.oneCell']
/-- the cells cs have the first k slots of S -/
def TabTo (S : List Sl) (k : Nat) (cs : Array Value) : Prop := cs.size = 48 ∧ ∀ j, j < k * 3 → cs[j]? = (tabL S)[j]?
theorem TabTo.zero (S : List Sl) {cs : Array Value} (h : cs.size = 48) : TabTo S 0 cs := ⟨h, fun j hj => by omega⟩
theorem TabTo.succ {S : List Sl} {k : Nat} {cs : Array Value} {s : Sl} (h : TabTo S k cs) (hs : S[k]? = some s) (hk : k < 16) : TabTo S (k + 1) (putL cs (k * 3) (slC s)) := by
  refine ⟨by rw [putL_size]; exact h.1, fun j hj => ?_⟩
  rw [putL_get _ _ _ _ (by rw [h.1]; simp [slC]; omega)]
  by_cases h1 : k * 3 ≤ j
  · rw [if_pos ⟨h1, by simp [slC]; omega⟩]
    have := tabL_get S k s hs (j - k * 3) (by omega)
    rw [show k * 3 + (j - k * 3) = j by omega] at this
    exact this.symm
  · rw [if_neg (by omega)]
    exact h.2 j (by omega)
theorem TabTo.done {S : List Sl} {cs : Array Value} (h : TabTo S 16 cs) (hS : S.length = 16) : cs = tab S := by
  apply Array.ext_getElem?
  intro j
  by_cases hj : j < 48
  · rw [h.2 j hj]; simp [tab]
  · rw [Array.getElem?_eq_none (by rw [h.1]; omega), Array.getElem?_eq_none (by rw [tab_size, hS]; omega)]
theorem openErr_of {l : List UInt64} (h : SizeOk l.length) (h2 : ∀ x ∈ (ws l).take 16, Right (spl x)) : openErr l = 0 := by
  rw [openErr, if_pos h, if_pos]
  intro x hx
  exact h2 x (by rw [List.take_of_length_le (by rw [ws_len h]; omega)]; exact hx)
theorem openErr_no {l : List UInt64} (h : SizeOk l.length) {k : Nat} {x : UInt64} (hx : (ws l)[k]? = some x) (hn : ¬ Right (spl x)) : openErr l = 50 := by
  rw [openErr, if_pos h, if_neg]
  intro hall
  exact hn (hall x (List.mem_of_getElem? hx))
theorem right_take {l : List UInt64} {k : Nat} {x : UInt64} (h : ∀ y ∈ (ws l).take k, Right (spl y)) (hx : (ws l)[k]? = some x) (hr : Right (spl x)) : ∀ y ∈ (ws l).take (k + 1), Right (spl y) := by
  intro y hy
  rw [List.take_add_one, hx] at hy
  rcases List.mem_append.1 hy with hy | hy
  · exact h y hy
  · simp at hy; subst hy; exact hr
theorem tabNo (l : List UInt64) (h : openErr l ≠ 0) : tab (tabOf l) = #[.int .i64 0, .bool false, .int .i64 0, .int .i64 0, .bool false, .int .i64 0, .int .i64 0, .bool false, .int .i64 0, .int .i64 0, .bool false, .int .i64 0, .int .i64 0, .bool false, .int .i64 0, .int .i64 0, .bool false, .int .i64 0, .int .i64 0, .bool false, .int .i64 0, .int .i64 0, .bool false, .int .i64 0, .int .i64 0, .bool false, .int .i64 0, .int .i64 0, .bool false, .int .i64 0, .int .i64 0, .bool false, .int .i64 0, .int .i64 0, .bool false, .int .i64 0, .int .i64 0, .bool false, .int .i64 0, .int .i64 0, .bool false, .int .i64 0, .int .i64 0, .bool false, .int .i64 0, .int .i64 0, .bool false, .int .i64 0] := by rw [tabOf, if_neg h]; rfl
set_option maxRecDepth 100000 in
set_option maxHeartbeats 2000000 in
theorem open_any (v : Value) (l : List UInt64) (V : Array Value) (hV : V = tab (tabOf l)) (r : Int) (hr : r = openErr l) (w : World) (h : Words w v l) :
    Calls Try.prog 70 #[v] w fun e w' => e = .returned (.tuple #[.agg V, .int .i64 r]) ∧ Below w.heap.size w w' := by
  have B : Below w.heap.size w w := Below.refl _ _
  have HV := Lib.hid hV; have HR := Lib.hid hr; clear hV hr
  have CT := fun w h => Check_any v l w h
  by_cases hs : SizeOk l.length
  · rw [chk_ok hs] at CT
    have HC := Lib.hid CT; have H := Lib.hid h; have HS := Lib.hid hs
    have hlen := hs.1
    clear h hs CT
    go_enter Try.func70, Try.ntmps70
    go_wp2_with fail
    refine calls_gen (fun Wv => Bx Wv (w.heap.size) (146) (#[.int .i64 0, .bool false, .int .i64 0, .int .i64 0, .bool false, .int .i64 0, .int .i64 0, .bool false, .int .i64 0, .int .i64 0, .bool false, .int .i64 0, .int .i64 0, .bool false, .int .i64 0, .int .i64 0, .bool false, .int .i64 0, .int .i64 0, .bool false, .int .i64 0, .int .i64 0, .bool false, .int .i64 0, .int .i64 0, .bool false, .int .i64 0, .int .i64 0, .bool false, .int .i64 0, .int .i64 0, .bool false, .int .i64 0, .int .i64 0, .bool false, .int .i64 0, .int .i64 0, .bool false, .int .i64 0, .int .i64 0, .bool false, .int .i64 0, .int .i64 0, .bool false, .int .i64 0, .int .i64 0, .bool false, .int .i64 0]) ∧ Below w.heap.size w Wv) ⟨((Bx.at_ (by simp))), ((Below.refl _ w).alloc (by simp <;> omega) _)⟩ ?_
    rintro w' ⟨q0, b⟩
    replace B := B.trans (b.mono B.size); clear b
    have hz1 : w.heap.size < w'.heap.size := q0.lt
    obtain ⟨w1, hw1⟩ : ∃ w1, w1 = w' := ⟨_, rfl⟩
    subst hw1
    refine (HC.out _ (H.out.below B)).mono ?_
    rintro e w2 ⟨rfl, rfl⟩
    go_wp2
    refine wp_gen (fun Wv => Bx Wv (w1.heap.size) (146) (#[.int .i64 0, .bool false, .int .i64 0, .int .i64 0, .bool false, .int .i64 0, .int .i64 0, .bool false, .int .i64 0, .int .i64 0, .bool false, .int .i64 0, .int .i64 0, .bool false, .int .i64 0, .int .i64 0, .bool false, .int .i64 0, .int .i64 0, .bool false, .int .i64 0, .int .i64 0, .bool false, .int .i64 0, .int .i64 0, .bool false, .int .i64 0, .int .i64 0, .bool false, .int .i64 0, .int .i64 0, .bool false, .int .i64 0, .int .i64 0, .bool false, .int .i64 0, .int .i64 0, .bool false, .int .i64 0, .int .i64 0, .bool false, .int .i64 0, .int .i64 0, .bool false, .int .i64 0, .int .i64 0, .bool false, .int .i64 0]) ∧ Below w1.heap.size w1 Wv) ⟨((Bx.at_ (by simp))), ((Below.refl _ w1).alloc (by simp <;> omega) _)⟩ ?_
    rintro w' ⟨q1, b⟩
    replace q0 := q0.below b; replace B := B.trans (b.mono B.size); clear b
    have hq : w1.heap.size ≠ w.heap.size := by have := hz1; omega
    obtain ⟨S, hS⟩ : ∃ S, S = slots l := ⟨_, rfl⟩
    have HSS := Lib.hid hS; clear hS
    have HB := Lib.hid B; have HG := Lib.hid (And.intro q0 q1); clear B q0 q1
    go_loopw [15] (fun i wr => ∃ k : Nat, k ≤ 16 ∧ i = .int .i64 k ∧ Hid (Bx wr w.heap.size 146 #[.int .i64 0, .bool false, .int .i64 0, .int .i64 0, .bool false, .int .i64 0, .int .i64 0, .bool false, .int .i64 0, .int .i64 0, .bool false, .int .i64 0, .int .i64 0, .bool false, .int .i64 0, .int .i64 0, .bool false, .int .i64 0, .int .i64 0, .bool false, .int .i64 0, .int .i64 0, .bool false, .int .i64 0, .int .i64 0, .bool false, .int .i64 0, .int .i64 0, .bool false, .int .i64 0, .int .i64 0, .bool false, .int .i64 0, .int .i64 0, .bool false, .int .i64 0, .int .i64 0, .bool false, .int .i64 0, .int .i64 0, .bool false, .int .i64 0, .int .i64 0, .bool false, .int .i64 0, .int .i64 0, .bool false, .int .i64 0] ∧ (∃ cs, Bx wr w1.heap.size 146 cs ∧ TabTo S k cs) ∧ ∀ x ∈ (ws l).take k, Right (spl x)) ∧ Below w.heap.size w wr) (fun i _ => 16 - (intOf i).toNat)
    case atStart => exact ⟨0, by omega, rfl, Lib.hid ⟨HG.out.1, ⟨_, HG.out.2, TabTo.zero _ rfl⟩, by simp⟩, HB.out⟩
    case round =>
      obtain ⟨k, hk, rfl, hh, B⟩ := hrel
      by_cases hlt : k < 16
      · obtain ⟨ad, x, ia, ca, hx⟩ := (H.out.below B).atI Try.underlying25 one_u64 (k := 112 + (k : Int)) (by omega) (by omega)
        have hx' : (ws l)[k]? = some x := ws_get hlt (by have := hx.out; rwa [show (112 + (k : Int)).toNat = 112 + k by omega] at this)
        have HX := Lib.hid hx'; clear hx hx'
        by_cases hr : Right (spl x)
        · have SP := Split_r x (spl x) 0 (by rw [spl0, if_pos hr]) (by rw [splErr, if_pos hr])
          obtain ⟨s, hs⟩ : ∃ s, s = spl x := ⟨_, rfl⟩
          rw [← hs] at SP
          have HSP := Lib.hid SP; have HRR := Lib.hid hr; have HSX := Lib.hid hs; clear SP hr hs
          go_wp2_with fail
          refine (HSP.out _).mono ?_
          rintro e w2 ⟨rfl, b⟩
          obtain ⟨gg0, ⟨cs, gg1, ht⟩, hright⟩ := hh.out
          have b0 := gg0.below b; have b1 := gg1.below b; replace B := B.trans (b.mono B.size)
          clear b gg0 gg1
          have HT := Lib.hid ht; have HRT := Lib.hid hright; have hcs : k * 3 + 3 ≤ cs.size := by rw [ht.1]; omega
          clear ht hright
          go_wp2_with ((with_reducible refine at_store 56 33 32 ?_); refine wpList_storePart rfl _ _ _ rfl _ _ _ rfl rfl (b1.alloc _) size_slot (by simpa using hcs) (slot_one _) ?_; intro W c1 S1)
          have hgS : S[k]? = some s := by rw [HSS.out, slots, List.getElem?_map, HX.out, HSX.out]; rfl
          have HGS := Lib.hid hgS; have HC1 := Lib.hid c1; have HS1 := Lib.hid S1; have HB0 := Lib.hid b0; have HB := Lib.hid B
          clear hgS c1 S1 b0 B b1 hcs hh
          go_roundw
          case rel =>
            refine ⟨k + 1, by omega, by go_num, Lib.hid ⟨HS1.out.2 (by omega) (HB0.out.alloc _), ⟨_, HC1.out, ?_⟩, right_take HRT.out HX.out HRR.out⟩, HS1.out.1 (HB.out.alloc HB.out.size _) (by omega)⟩
            have := HT.out.succ HGS.out hlt
            exact this
          case measure => simp [intOf]; omega
        · have SP := Split_r x .none 50 (by rw [spl0, if_neg hr]) (by rw [splErr, if_neg hr])
          have he := openErr_no HS.out HX.out hr
          have hz := tabNo l (by rw [he]; omega)
          have HSP := Lib.hid SP; have HE := Lib.hid he; have HZ := Lib.hid hz; clear SP hr he hz
          go_wp2_with fail
          refine (HSP.out _).mono ?_
          rintro e w2 ⟨rfl, b⟩
          obtain ⟨gg0, ⟨cs, gg1, ht⟩, hright⟩ := hh.out
          have b0 := gg0.below b; replace B := B.trans (b.mono B.size)
          clear b gg0 gg1 ht hright hh
          go_wp2_with ((with_reducible refine at_store 146 2 29 ?_); refine wpList_storeRow rfl _ _ _ rfl _ _ rfl rfl (b0.alloc _) size_table rfl z48_one ?_; intro W g0 S0)
          refine bodyPost_ret (results_row rfl _ rfl g0 _ Try.underlying146 rfl size_table) rfl ⟨?_, S0.1 (B.alloc B.size _) (Nat.le_refl _)⟩
          rw [HV.out, HZ.out, HR.out, HE.out]; rfl
      · obtain rfl : k = 16 := by omega
        obtain ⟨gg0, ⟨cs, gg1, ht⟩, hright⟩ := hh.out
        have he := openErr_of HS.out hright
        have hcs := ht.done (by rw [HSS.out]; exact slots_len HS.out)
        have hV : V = cs := by rw [HV.out, tabOf, if_pos he, ← HSS.out, hcs]
        subst hV
        have hsz : V.size = 48 := ht.1
        have h1 : V.all (·.oneCell') = true := by rw [hcs]; exact all_oneCell_toArray (tabL_one S)
        have HCS := Lib.hid hcs; have HE := Lib.hid he; clear hcs he hright ht hh
        have HSZ := Lib.hid hsz; have H1 := Lib.hid h1; clear hsz h1
        go_wp2_with (first
          | ((with_reducible refine at_load 35 146 5 ?_); refine wpList_loadRow rfl _ _ rfl _ rfl gg1 _ Try.underlying146 rfl (by rw [HSZ.out]; exact size_table) ?_)
          | ((with_reducible refine at_store 146 2 35 ?_); refine wpList_storeRow rfl _ _ _ rfl _ _ rfl rfl gg0 (by rw [HSZ.out]; exact size_table) (by rw [HSZ.out]; rfl) H1.out ?_; intro W g0 S0))
        refine bodyPost_ret (results_row rfl _ rfl g0 _ Try.underlying146 rfl (by rw [HSZ.out]; exact size_table)) rfl ⟨?_, S0.1 B (Nat.le_refl _)⟩
        rw [HR.out, HE.out]; rfl
  · have hr8 : openErr l = 8 := by rw [openErr, if_neg hs]
    have hz := tabNo l (by rw [hr8]; omega)
    rw [chk_no hs] at CT
    have HZ := Lib.hid hz; have HR8 := Lib.hid hr8
    have HC := Lib.hid CT; have H := Lib.hid h; clear h hs hz hr8 CT
    go_enter Try.func70, Try.ntmps70
    go_wp2_with fail
    refine calls_gen (fun Wv => Bx Wv (w.heap.size) (146) (#[.int .i64 0, .bool false, .int .i64 0, .int .i64 0, .bool false, .int .i64 0, .int .i64 0, .bool false, .int .i64 0, .int .i64 0, .bool false, .int .i64 0, .int .i64 0, .bool false, .int .i64 0, .int .i64 0, .bool false, .int .i64 0, .int .i64 0, .bool false, .int .i64 0, .int .i64 0, .bool false, .int .i64 0, .int .i64 0, .bool false, .int .i64 0, .int .i64 0, .bool false, .int .i64 0, .int .i64 0, .bool false, .int .i64 0, .int .i64 0, .bool false, .int .i64 0, .int .i64 0, .bool false, .int .i64 0, .int .i64 0, .bool false, .int .i64 0, .int .i64 0, .bool false, .int .i64 0, .int .i64 0, .bool false, .int .i64 0]) ∧ Below w.heap.size w Wv) ⟨((Bx.at_ (by simp))), ((Below.refl _ w).alloc (by simp <;> omega) _)⟩ ?_
    rintro w' ⟨q0, b⟩
    replace B := B.trans (b.mono B.size); clear b
    refine (HC.out _ (H.out.below B)).mono ?_
    rintro e w1 ⟨rfl, rfl⟩
    go_wp2_with ((with_reducible refine at_store 146 2 13 ?_); refine wpList_storeRow rfl _ _ _ rfl _ _ rfl rfl q0 size_table rfl z48_one ?_; intro W g0 S0)
    refine bodyPost_ret (results_row rfl _ rfl g0 _ Try.underlying146 rfl size_table) rfl ⟨?_, S0.1 B (Nat.le_refl _)⟩
    rw [HV.out, HZ.out, HR.out, HR8.out]; rfl
end Go.Proofs.Ytodbbacmdjcheaa
namespace Go.Proofs.Ytodbbacmdjcheaa
open Go.RowKit L01 L02 L18
theorem tab_one (L : List Sl) : (tab L).all (·.oneCell') = true := all_oneCell_toArray (tabL_one L)
theorem tab_get3 {L : List Sl} {k : Nat} {s : Sl} (h : L[k]? = some s) : (tab L)[k * 3]? = some (.int .i64 s.gen) ∧ (tab L)[k * 3 + 1]? = some (.bool s.used) ∧ (tab L)[k * 3 + 2]? = some (.int .i64 s.at_) := by
  have h0 := tabL_get L k s h 0 (by omega)
  have h1 := tabL_get L k s h 1 (by omega)
  have h2 := tabL_get L k s h 2 (by omega)
  simp only [tab, List.getElem?_toArray]
  exact ⟨h0, h1, h2⟩
/-- A slice of slots. -/
def Slots (w : World) (v : Value) (L : List Sl) : Prop := Rd w 3 v L.length (tabL L)
def OwnS (w : World) (base E : Nat) (v : Value) (L : List Sl) : Prop := w.ownsRow base E 3 v L.length (tabL L)
theorem OwnS.rd {w : World} {base E : Nat} {v : Value} {L : List Sl} (h : OwnS w base E v L) : Slots w v L := Rd.of_own h
theorem Slots.below {w w' : World} {v : Value} {L : List Sl} (h : Slots w v L) (hb : Below w.heap.size w w') : Slots w' v L := Rd.below h hb
theorem OwnS.below {w w' : World} {base E : Nat} {v : Value} {L : List Sl} (h : OwnS w base E v L) (hb : Below w.heap.size w w') : OwnS w' base E v L := own_below h hb
theorem OwnS.nil (w : World) (base E : Nat) : OwnS w base E (.slice none 0 0) [] := World.ownsRow_nil w base E 3
/-- a whole array, taken as a slice. -/
theorem Bx.ownS {w : World} {g base : Nat} {t : TypeId} {cs : Array Value} {L : List Sl} (h : Bx w g t cs) (hb : base ≤ g) (hc : cs = tab L) (hL : L.length = 16) : OwnS w base t (.slice (some ⟨g, 0, none⟩) 16 16) L := by
  subst hc
  unfold OwnS
  rw [hL]
  refine ⟨by rw [tabL_len, hL], .inr ⟨g, 16, tab L, rfl, hb, h, Nat.le_refl _, by simp [maxLen], by rw [tab_size, hL], ?_⟩⟩
  rw [List.take_of_length_le (by simp [tab, tabL_len]; omega)]
  simp [tab]
theorem all_nil {l : List UInt64} (h : openErr l ≠ 0) : all l = [] := if_neg h
theorem all_ok {l : List UInt64} (h : openErr l = 0) : all l = slots l := if_pos h
theorem tabOf_ok {l : List UInt64} (h : openErr l = 0) : tabOf l = slots l := if_pos h
theorem slots16 {l : List UInt64} (h : openErr l = 0) : (slots l).length = 16 := by rw [← tabOf_ok h, tabOf_len]
set_option maxRecDepth 100000 in
set_option maxHeartbeats 1000000 in
theorem All18_any (v : Value) (l : List UInt64) (L : List Sl) (r : Int) (hL : L = all l) (hr : r = openErr l) (w : World) (h : Words w v l) :
    Calls Try.prog 39 #[v] w fun e w' => ∃ x E, e = .returned (.tuple #[x, .int .i64 r]) ∧ OwnS w' w.heap.size E x L ∧ Below w.heap.size w w' := by
  have B : Below w.heap.size w w := Below.refl _ _
  obtain ⟨V, hV⟩ : ∃ V, V = tab (tabOf l) := ⟨_, rfl⟩
  have OT := fun w h => open_any v l V hV r hr w h
  have HOT := Lib.hid OT; have H := Lib.hid h; clear OT h
  by_cases h0 : openErr l = 0
  · have hr0 : r = 0 := hr.trans h0
    have hVs : V.size = 48 := by rw [hV]; exact tabOf_size l
    have hV1 : V.all (·.oneCell') = true := by rw [hV]; exact tab_one _
    have hLS : L = slots l := hL.trans (all_ok h0)
    have hVL : V = tab L := by rw [hV, tabOf_ok h0, hLS]
    have hL16 : L.length = 16 := by rw [hLS]; exact slots16 h0
    subst hr0
    have HVs := Lib.hid hVs; have HV1 := Lib.hid hV1; have HVL := Lib.hid hVL; have HL16 := Lib.hid hL16
    clear hr h0 hVs hV1 hLS hVL hL16 hV hL
    go_enter Try.func39, Try.ntmps39
    go_wp2_with fail
    refine (HOT.out _ (H.out.below B)).mono ?_
    rintro e w' ⟨rfl, b⟩
    replace B := B.trans (b.mono B.size); clear b
    go_wp2_with ((with_reducible refine at_store 146 4 9 ?_); refine wpList_storeNew rfl _ _ _ rfl rfl V rfl rfl (by rw [HVs.out]; exact size_table) (by rw [HVs.out]; rfl) HV1.out ?_; intro W q1 b1)
    go_ret2
    exact ⟨_, _, rfl, q1.ownS B.size HVL.out HL16.out, B.trans (b1.mono B.size)⟩
  · have hne : (r != 0) = true := by rw [bne_iff_ne, hr]; exact h0
    have hVs : V.size = 48 := by rw [hV]; exact tabOf_size l
    have hV1 : V.all (·.oneCell') = true := by rw [hV]; exact tab_one _
    have hL0 : L = [] := hL.trans (all_nil h0)
    have HVs := Lib.hid hVs; have HV1 := Lib.hid hV1
    clear hr h0 hVs hV1 hV hL
    subst hL0
    go_enter Try.func39, Try.ntmps39
    go_wp2_with fail
    refine (HOT.out _ (H.out.below B)).mono ?_
    rintro e w' ⟨rfl, b⟩
    replace B := B.trans (b.mono B.size); clear b
    go_wp2_with ((with_reducible refine at_store 146 4 9 ?_); refine wpList_storeNew rfl _ _ _ rfl rfl V rfl rfl (by rw [HVs.out]; exact size_table) (by rw [HVs.out]; rfl) HV1.out ?_; intro W q1 b1)
    go_ret2
    exact ⟨_, 0, rfl, OwnS.nil _ _ _, B.trans (b1.mono B.size)⟩
end Go.Proofs.Ytodbbacmdjcheaa
namespace Go.Proofs.Ytodbbacmdjcheaa
open Go.RowKit L01 L02 L18
def entV (a : Int) (x : UInt64) : Value := .agg #[.int .i64 a, .int .u64 x.toNat]
theorem index_tab {L : List Sl} {k : Nat} {s : Sl} (hL : L.length = 16) (V : Array Value) (hV : V = tab L) (h : L[k]? = some s) (W : World) : (Instr.index 146 (.agg V) (.int .i64 (k : Int))).run Try.prog W = .ok (.agg #[.int .i64 s.gen, .bool s.used, .int .i64 s.at_]) W := by
  subst hV
  have hk : k < 16 := by have := (List.getElem?_eq_some_iff.1 h).1; omega
  obtain ⟨t0, t1, t2⟩ := tab_get3 h
  obtain ⟨i, hi, hsz⟩ := Option.map_eq_some_iff.1 size_slot
  have he : (tab L).extract (k * 3) (k * 3 + 3) = #[.int .i64 s.gen, .bool s.used, .int .i64 s.at_] := by
    apply Array.ext_getElem?
    intro j
    rw [Array.getElem?_extract]
    have hz : (tab L).size = 48 := by rw [tab_size, hL]
    match j with
    | 0 => rw [if_pos (by rw [hz]; omega)]; exact t0
    | 1 => rw [if_pos (by rw [hz]; omega)]; exact t1
    | 2 => rw [if_pos (by rw [hz]; omega)]; exact t2
    | j + 3 => rw [if_neg (by rw [hz]; omega)]; simp
  simp [Instr.index, run_underlying Try.underlying146, asIntOf, hk, sizeOf, typeInfo, go_sem, hi, hsz]
  exact he
set_option maxRecDepth 100000 in
set_option maxHeartbeats 1000000 in
theorem New18_ok (v : Value) (l : List UInt64) (a : Int) (w : World) (h : Words w v l) (h0 : openErr l = 0) (ha : 128 ≤ a ∧ a < 2048) :
    Calls Try.prog 48 #[v, .int .i64 a] w fun e w' => e = .returned (.tuple #[.agg #[.int .i64 (newSlot l a), .int .i64 (newGen l a)], entV (newAt l a) (newVal l a), .int .i64 (L18.newErr l a)]) ∧ Below w.heap.size w w' := by
  have B : Below w.heap.size w w := Below.refl _ _
  obtain ⟨V, hV⟩ : ∃ V, V = tab (tabOf l) := ⟨_, rfl⟩
  have OT := fun w h => open_any v l V hV 0 h0.symm w h
  have HOT := Lib.hid OT; have H := Lib.hid h; clear OT h
  have hVs : V.size = 48 := by rw [hV]; exact tabOf_size l
  have hV1 : V.all (·.oneCell') = true := by rw [hV]; exact tab_one _
  have HVs := Lib.hid hVs; have HV1 := Lib.hid hV1
  clear hVs hV1
  rw [tabOf_ok h0] at hV
  have HV := Lib.hid hV; have H0 := Lib.hid h0; have HA := Lib.hid ha
  obtain ⟨a1, a2⟩ := ha
  clear hV h0
  go_enter Try.func48, Try.ntmps48
  go_upto_region 1 with (fail)
  refine wp_gen (fun Wv => Bx Wv (w.heap.size) (61) (#[.int .i64 0, .int .i64 0]) ∧ Bx Wv (w.heap.size + 1) (66) (#[.int .i64 0, .int .u64 0]) ∧ Below w.heap.size w Wv) ⟨(((Bx.at_ (by simp)).alloc _)), ((Bx.at_ (by simp))), (((Below.refl _ w).alloc (by simp <;> omega) _).alloc (by simp <;> omega) _)⟩ ?_
  rintro w' ⟨g4, g5, b⟩
  replace B := B.trans (b.mono B.size); clear b
  have c_g4 := g4.cell; have f_g4 := g4.free; have a_g4 := fun o => (g4.alloc o).cell; have d_g4 := fun o o2 => ((g4.alloc o).alloc o2).cell; have e_g4 := fun o => (g4.alloc o).free
  have c_g5 := g5.cell; have f_g5 := g5.free; have a_g5 := fun o => (g5.alloc o).cell; have d_g5 := fun o o2 => ((g5.alloc o).alloc o2).cell; have e_g5 := fun o => (g5.alloc o).free
  go_wp2_with fail
  refine (HOT.out _ (H.out.below B)).mono ?_
  rintro e w' ⟨rfl, b⟩
  try clear c_g4 f_g4 a_g4 d_g4 e_g4
  replace g4 := g4.below b; have c_g4 := g4.cell; have f_g4 := g4.free; have a_g4 := fun o => (g4.alloc o).cell; have d_g4 := fun o o2 => ((g4.alloc o).alloc o2).cell; have e_g4 := fun o => (g4.alloc o).free; try clear c_g5 f_g5 a_g5 d_g5 e_g5
  replace g5 := g5.below b; have c_g5 := g5.cell; have f_g5 := g5.free; have a_g5 := fun o => (g5.alloc o).cell; have d_g5 := fun o o2 => ((g5.alloc o).alloc o2).cell; have e_g5 := fun o => (g5.alloc o).free; replace B := B.trans (b.mono B.size); clear b
  go_wp2_with (first
    | ((with_reducible refine at_store 146 7 15 ?_); refine wpList_storeNew rfl _ _ _ rfl rfl V rfl rfl (by rw [HVs.out]; exact size_table) (by rw [HVs.out]; rfl) HV1.out ?_; intro W q1 b1)
    | ((with_reducible refine at_load 30 146 7 ?_); refine wpList_loadRow rfl _ _ rfl _ rfl q1 _ Try.underlying146 rfl (by rw [HVs.out]; exact size_table) ?_))
  replace g4 := g4.below b1; replace g5 := g5.below b1; replace B := B.trans (b1.mono B.size)
  have HG := Lib.hid (And.intro g4 g5); have HB := Lib.hid B; clear q1 b1 B
  clear c_g4 f_g4 a_g4 d_g4 e_g4 c_g5 f_g5 a_g5 d_g5 e_g5
  clear g4 g5
  go_loopw [31] (fun i wr => ∃ k : Nat, k ≤ 16 ∧ i = .int .i64 k ∧ Hid ((Bx wr w.heap.size 61 #[.int .i64 0, .int .i64 0] ∧ Bx wr (w.heap.size + 1) 66 #[.int .i64 0, .int .u64 0]) ∧ nextFrom ((slots l).drop k) k = next (slots l)) ∧ Below w.heap.size w wr) (fun i _ => 16 - (intOf i).toNat)
  case atStart => exact ⟨0, by omega, rfl, Lib.hid ⟨HG.out, rfl⟩, HB.out⟩
  case round =>
    clear HG HB
    obtain ⟨k, hk, rfl, hh, B⟩ := hrel
    by_cases hlt : k < 16
    · obtain ⟨s, hs⟩ : ∃ s, (slots l)[k]? = some s := ⟨_, List.getElem?_eq_getElem (by rw [slots16 H0.out]; exact hlt)⟩
      have hix := index_tab (slots16 H0.out) V HV.out hs
      obtain ⟨⟨g4, g5⟩, hn⟩ := hh.out
      rw [List.drop_eq_getElem_cons (by rw [slots16 H0.out]; exact hlt)] at hn
      have HS := Lib.hid hs; have HN := Lib.hid hn; clear hs hn hh
      obtain ⟨gn, us, at_⟩ := s
      dsimp only at hix
      have hcase : (us = true ∨ us = false ∧ gn = 2147483647) ∨ (us = false ∧ (gn == 2147483647) = false) := by
        cases us
        · by_cases hg : gn = 2147483647
          · exact .inl (.inr ⟨rfl, hg⟩)
          · exact .inr ⟨rfl, by rw [beq_eq_false_iff_ne]; exact hg⟩
        · exact .inl (.inl rfl)
      have HIX := Lib.hid hix; clear hix
      rcases hcase with hcase | ⟨rfl, hne⟩
      · have hnx : nextFrom ((slots l).drop (k + 1)) (k + 1) = next (slots l) := by
          rw [← HN.out, nextFrom, if_neg]
          have e := HS.out
          rw [List.getElem?_eq_getElem (by rw [slots16 H0.out]; exact hlt)] at e
          injection e with e
          rw [e]
          rcases hcase with h | ⟨_, h⟩
          · exact fun h2 => by rw [h] at h2; exact absurd h2.1 (by simp)
          · exact fun h2 => h2.2 h
        have HNX := Lib.hid hnx; clear hnx
        have HG := Lib.hid (And.intro g4 g5); have HB := Lib.hid B; clear g4 g5 B
        have hix := HIX.out
        rcases hcase with rfl | ⟨rfl, rfl⟩
        all_goals
          go_wp2
          go_roundw
          case rel => exact ⟨k + 1, by omega, by go_num, Lib.hid ⟨⟨HG.out.1.alloc _, HG.out.2.alloc _⟩, HNX.out⟩, HB.out.alloc HB.out.size _⟩
          case measure => simp [intOf]; omega
      · have hnx : next (slots l) = some k := by
          rw [← HN.out, nextFrom, if_pos]
          have e := HS.out
          rw [List.getElem?_eq_getElem (by rw [slots16 H0.out]; exact hlt)] at e
          injection e with e
          rw [e]
          exact ⟨rfl, by simpa using hne⟩
        have hR : Right ⟨gn, false, at_⟩ := by
          have hall := H0.out
          unfold openErr at hall
          split at hall
          · split at hall
            · rename_i h2 h3
              have e := HS.out
              rw [slots, List.getElem?_map] at e
              obtain ⟨x, hx, hxe⟩ := Option.map_eq_some_iff.1 e
              rw [← hxe]; exact h3 x (List.mem_of_getElem? hx)
            · omega
          · omega
        have hR2 : Right ⟨gn + 1, true, a⟩ := ⟨by have := hR.1; simp at this ⊢; omega, by have := hR.2.1; simp at this hne ⊢; omega, by simp, fun _ => ⟨by have := hR.1; simp at this ⊢; omega, a1, a2⟩⟩
        have hg1 : 0 ≤ gn := hR.1
        have hg2 : gn < 2147483647 := by have := hR.2.1; simp at this hne; omega
        have herr : L18.newErr l a = 0 := by rw [L18.newErr, if_pos H0.out, if_pos HA.out, hnx]; rfl
        have e1 : newSlot l a = k := by rw [newSlot, if_pos herr, hnx]; rfl
        have e2 : newGen l a = gn + 1 := by rw [newGen, if_pos herr, hnx]; simp [List.getD_eq_getElem?_getD, HS.out]
        have e3 : newAt l a = 112 + k := by rw [newAt, if_pos herr, hnx]; rfl
        have e4 : newVal l a = pk ⟨gn + 1, true, a⟩ := by rw [newVal, if_pos herr, e2]
        obtain ⟨x, hx⟩ : ∃ x, x = pk ⟨gn + 1, true, a⟩ := ⟨_, rfl⟩
        have PT := fun w => pack_any ⟨gn + 1, true, a⟩ x hx hR2 w
        dsimp only at PT
        rw [← hx] at e4
        have HE := Lib.hid (And.intro herr (And.intro e1 (And.intro e2 (And.intro e3 e4)))); have HPT := Lib.hid PT
        clear hnx hR hR2 herr e1 e2 e3 e4 PT hx
        have hix := HIX.out
        have hsz := B.size
        have n4 : wr.heap.size + 1 ≠ w.heap.size := by omega
        have n5 : wr.heap.size + 1 ≠ w.heap.size + 1 := by have := g5.lt; omega
        go_wp2
        refine wp_gen (fun Wv => Bx Wv (wr.heap.size + 1) (56) (#[.int .i64 (gn + 1), .bool true, .int .i64 a]) ∧ Below wr.heap.size wr Wv) ⟨((Bx.at_ (by simp))), (((Below.refl _ wr).alloc (by simp <;> omega) _).alloc (by simp <;> omega) _)⟩ ?_
        rintro w' ⟨g11, b⟩
        try clear c_g4 f_g4 a_g4 d_g4 e_g4
        replace g4 := g4.below b; have c_g4 := g4.cell; have f_g4 := g4.free; have a_g4 := fun o => (g4.alloc o).cell; have d_g4 := fun o o2 => ((g4.alloc o).alloc o2).cell; have e_g4 := fun o => (g4.alloc o).free; try clear c_g5 f_g5 a_g5 d_g5 e_g5
        replace g5 := g5.below b; have c_g5 := g5.cell; have f_g5 := g5.free; have a_g5 := fun o => (g5.alloc o).cell; have d_g5 := fun o o2 => ((g5.alloc o).alloc o2).cell; have e_g5 := fun o => (g5.alloc o).free; replace B := B.trans (b.mono B.size); clear b
        have c_g11 := g11.cell; have f_g11 := g11.free; have a_g11 := fun o => (g11.alloc o).cell; have d_g11 := fun o o2 => ((g11.alloc o).alloc o2).cell; have e_g11 := fun o => (g11.alloc o).free
        clear hix
        have i0 := c_g11 0; have i1 := c_g11 1; have i2 := c_g11 2
        simp only [List.getElem?_toArray, List.getElem?_cons_zero, List.getElem?_cons_succ] at i0 i1 i2
        clear c_g11 f_g11 a_g11 d_g11 e_g11 c_g4 f_g4 a_g4 d_g4 e_g4 c_g5 f_g5 a_g5 d_g5 e_g5
        obtain ⟨W0, hW0⟩ : ∃ W0, W0 = w' := ⟨_, rfl⟩
        subst hW0
        have hwk : IntKind.i64.wrap (112 + (k : Int)) = 112 + (k : Int) := IntWalk.i64_in _ (by omega)
        go_region_held3 (fun Z => Z.cell? ⟨wr.heap.size + 1, 0, none⟩ = some (.int .i64 (gn + 1)) ∧ Z.cell? ⟨wr.heap.size + 1, 1, none⟩ = some (.bool true) ∧ Z.cell? ⟨wr.heap.size + 1, 2, none⟩ = some (.int .i64 a))
          (first
            | with_reducible exact ⟨j0, j1, j2⟩
            | with_reducible exact ⟨cell_far (cell_far j0 n4) n4, cell_far (cell_far j1 n4) n4, cell_far (cell_far j2 n4) n4⟩
            | with_reducible exact ⟨cell_far (cell_far (cell_far (cell_far j0 n4) n4) n5) n5, cell_far (cell_far (cell_far (cell_far j1 n4) n4) n5) n5, cell_far (cell_far (cell_far (cell_far j2 n4) n4) n5) n5⟩
            | exact ⟨i0, i1, i2⟩)
          ((go_at_call 81; (with_reducible refine (HPT.out _).mono ?_); rintro e W1 ⟨rfl, b⟩; have bb : Below W0.heap.size W0 W1 := ((Below.refl W0.heap.size W0).drew).trans b; have m11 := g11.below bb; have j0 : W1.cell? ⟨wr.heap.size + 1, 0, none⟩ = some (.int .i64 (gn + 1)) := m11.cell 0; have j1 : W1.cell? ⟨wr.heap.size + 1, 1, none⟩ = some (.bool true) := m11.cell 1; have j2 : W1.cell? ⟨wr.heap.size + 1, 2, none⟩ = some (.int .i64 a) := m11.cell 2; have m4 := g4.below bb; have m5 := g5.below bb; have k4 := m4.cell; have l4 := m4.free; have k5 := m5.cell; have l5 := m5.free))
        go_wp2
        refine bodyPost_ret (v := .tuple #[.agg #[.int .i64 k, .int .i64 (gn + 1)], .agg #[.int .i64 (112 + k), .int .u64 x.toNat], .int .i64 0]) (by simp [results, Try.results48, go_sem, k4, l4, k5, l5]) rfl ?_
        obtain ⟨e0, e1, e2, e3, e4⟩ := HE.out
        refine ⟨by rw [e0, e1, e2, e3, e4]; rfl, ?_⟩
        replace B := B.trans (bb.mono B.size)
        (repeat (first | refine Below.setCell ?_ (by first | exact Nat.le_refl _ | (simp <;> omega)) _ | refine Below.alloc ?_ (by first | exact B.size | (have := B.size; simp <;> omega)) _)); exact B
    · obtain rfl : k = 16 := by omega
      obtain ⟨⟨g4, g5⟩, hn⟩ := hh.out
      rw [List.drop_of_length_le (by rw [slots16 H0.out]; omega)] at hn
      have hnx : next (slots l) = none := hn.symm
      have herr : L18.newErr l a = 23 := by rw [L18.newErr, if_pos H0.out, if_pos HA.out, if_pos hnx]
      have e1 : newSlot l a = 0 := if_neg (by rw [herr]; omega)
      have e2 : newGen l a = 0 := if_neg (by rw [herr]; omega)
      have e3 : newAt l a = 0 := if_neg (by rw [herr]; omega)
      have e4 : newVal l a = 0 := if_neg (by rw [herr]; omega)
      have HE := Lib.hid (And.intro herr (And.intro e1 (And.intro e2 (And.intro e3 e4))))
      have k4 := g4.cell; have l4 := g4.free; have k5 := g5.cell; have l5 := g5.free
      clear hn hnx herr e1 e2 e3 e4 hh
      go_wp2
      refine bodyPost_ret (v := .tuple #[.agg #[.int .i64 0, .int .i64 0], .agg #[.int .i64 0, .int .u64 0], .int .i64 23]) (by simp [results, Try.results48, go_sem, k4, l4, k5, l5]) rfl ?_
      obtain ⟨e0, e1, e2, e3, e4⟩ := HE.out
      refine ⟨by rw [e0, e1, e2, e3, e4]; rfl, ?_⟩
      (repeat (first | refine Below.setCell ?_ (by first | exact Nat.le_refl _ | (simp <;> omega)) _ | refine Below.alloc ?_ (by first | exact B.size | (have := B.size; simp <;> omega)) _)); exact B
set_option maxRecDepth 100000 in
set_option maxHeartbeats 1000000 in
theorem New18_any (v : Value) (l : List UInt64) (a sl g ea : Int) (ev : UInt64) (r : Int) (h1 : sl = newSlot l a) (h2 : g = newGen l a) (h3 : ea = newAt l a) (h4 : ev = newVal l a) (h5 : r = L18.newErr l a) (w : World) (h : Words w v l) :
    Calls Try.prog 48 #[v, .int .i64 a] w fun e w' => e = .returned (.tuple #[.agg #[.int .i64 sl, .int .i64 g], .agg #[.int .i64 ea, .int .u64 ev.toNat], .int .i64 r]) ∧ Below w.heap.size w w' := by
  by_cases h0 : openErr l = 0
  · by_cases ha : 128 ≤ a ∧ a < 2048
    · subst h1 h2 h3 h4 h5
      exact New18_ok v l a w h h0 ha
    · have herr : L18.newErr l a = 2 := by rw [L18.newErr, if_pos h0, if_neg ha]
      have e1 : sl = 0 := h1.trans (if_neg (by rw [herr]; omega))
      have e2 : g = 0 := h2.trans (if_neg (by rw [herr]; omega))
      have e3 : ea = 0 := h3.trans (if_neg (by rw [herr]; omega))
      have e4 : ev = 0 := h4.trans (if_neg (by rw [herr]; omega))
      rw [herr] at h5
      clear h1 h2 h3 h4 herr
      subst e1 e2 e3 e4 h5
      have B : Below w.heap.size w w := Below.refl _ _
      obtain ⟨V, hV⟩ : ∃ V, V = tab (tabOf l) := ⟨_, rfl⟩
      have OT := fun w h => open_any v l V hV 0 h0.symm w h
      have HOT := Lib.hid OT; have H := Lib.hid h; clear OT h
      have hVs : V.size = 48 := by rw [hV]; exact tabOf_size l
      have hV1 : V.all (·.oneCell') = true := by rw [hV]; exact tab_one _
      have HVs := Lib.hid hVs; have HV1 := Lib.hid hV1
      clear hVs hV1 hV h0
      have hcase : a < 128 ∨ 128 ≤ a ∧ 2048 ≤ a := by omega
      clear ha
      rcases hcase with a1 | ⟨a1, a2⟩
      all_goals
        go_enter Try.func48, Try.ntmps48
        go_upto_region 1 with (fail)
        refine wp_gen (fun Wv => Bx Wv (w.heap.size) (61) (#[.int .i64 0, .int .i64 0]) ∧ Bx Wv (w.heap.size + 1) (66) (#[.int .i64 0, .int .u64 0]) ∧ Below w.heap.size w Wv) ⟨(((Bx.at_ (by simp)).alloc _)), ((Bx.at_ (by simp))), (((Below.refl _ w).alloc (by simp <;> omega) _).alloc (by simp <;> omega) _)⟩ ?_
        rintro w' ⟨g4, g5, b⟩
        replace B := B.trans (b.mono B.size); clear b
        have c_g4 := g4.cell; have f_g4 := g4.free; have a_g4 := fun o => (g4.alloc o).cell; have d_g4 := fun o o2 => ((g4.alloc o).alloc o2).cell; have e_g4 := fun o => (g4.alloc o).free
        have c_g5 := g5.cell; have f_g5 := g5.free; have a_g5 := fun o => (g5.alloc o).cell; have d_g5 := fun o o2 => ((g5.alloc o).alloc o2).cell; have e_g5 := fun o => (g5.alloc o).free
        go_wp2_with fail
        refine (HOT.out _ (H.out.below B)).mono ?_
        rintro e w' ⟨rfl, b⟩
        try clear c_g4 f_g4 a_g4 d_g4 e_g4
        replace g4 := g4.below b; have c_g4 := g4.cell; have f_g4 := g4.free; have a_g4 := fun o => (g4.alloc o).cell; have d_g4 := fun o o2 => ((g4.alloc o).alloc o2).cell; have e_g4 := fun o => (g4.alloc o).free; try clear c_g5 f_g5 a_g5 d_g5 e_g5
        replace g5 := g5.below b; have c_g5 := g5.cell; have f_g5 := g5.free; have a_g5 := fun o => (g5.alloc o).cell; have d_g5 := fun o o2 => ((g5.alloc o).alloc o2).cell; have e_g5 := fun o => (g5.alloc o).free; replace B := B.trans (b.mono B.size); clear b
        go_wp2_with ((with_reducible refine at_store 146 7 15 ?_); refine wpList_storeNew rfl _ _ _ rfl rfl V rfl rfl (by rw [HVs.out]; exact size_table) (by rw [HVs.out]; rfl) HV1.out ?_; intro W q1 b1; have k4 := (g4.below b1).cell; have l4 := (g4.below b1).free; have k5 := (g5.below b1).cell; have l5 := (g5.below b1).free)
        refine bodyPost_ret (v := .tuple #[.agg #[.int .i64 0, .int .i64 0], .agg #[.int .i64 0, .int .u64 0], .int .i64 2]) (by simp [results, Try.results48, go_sem, k4, l4, k5, l5]) rfl ⟨rfl, ?_⟩
        replace B := B.trans (b1.mono B.size)
        (repeat (first | refine Below.setCell ?_ (by first | exact Nat.le_refl _ | (simp <;> omega)) _ | refine Below.alloc ?_ (by first | exact B.size | (have := B.size; simp <;> omega)) _)); exact B
  · have herr : L18.newErr l a = openErr l := by rw [L18.newErr, if_neg h0]
    have e1 : sl = 0 := h1.trans (if_neg (by rw [herr]; exact h0))
    have e2 : g = 0 := h2.trans (if_neg (by rw [herr]; exact h0))
    have e3 : ea = 0 := h3.trans (if_neg (by rw [herr]; exact h0))
    have e4 : ev = 0 := h4.trans (if_neg (by rw [herr]; exact h0))
    rw [herr] at h5
    clear h1 h2 h3 h4 herr
    subst e1 e2 e3 e4
    have B : Below w.heap.size w w := Below.refl _ _
    obtain ⟨V, hV⟩ : ∃ V, V = tab (tabOf l) := ⟨_, rfl⟩
    have OT := fun w h => open_any v l V hV r h5 w h
    have HOT := Lib.hid OT; have H := Lib.hid h; clear OT h
    have hVs : V.size = 48 := by rw [hV]; exact tabOf_size l
    have hV1 : V.all (·.oneCell') = true := by rw [hV]; exact tab_one _
    have HVs := Lib.hid hVs; have HV1 := Lib.hid hV1
    have hne : (r != 0) = true := by rw [bne_iff_ne, h5]; exact h0
    clear hVs hV1 hV h0 h5
    go_enter Try.func48, Try.ntmps48
    go_upto_region 1 with (fail)
    refine wp_gen (fun Wv => Bx Wv (w.heap.size) (61) (#[.int .i64 0, .int .i64 0]) ∧ Bx Wv (w.heap.size + 1) (66) (#[.int .i64 0, .int .u64 0]) ∧ Below w.heap.size w Wv) ⟨(((Bx.at_ (by simp)).alloc _)), ((Bx.at_ (by simp))), (((Below.refl _ w).alloc (by simp <;> omega) _).alloc (by simp <;> omega) _)⟩ ?_
    rintro w' ⟨g4, g5, b⟩
    replace B := B.trans (b.mono B.size); clear b
    have c_g4 := g4.cell; have f_g4 := g4.free; have a_g4 := fun o => (g4.alloc o).cell; have d_g4 := fun o o2 => ((g4.alloc o).alloc o2).cell; have e_g4 := fun o => (g4.alloc o).free
    have c_g5 := g5.cell; have f_g5 := g5.free; have a_g5 := fun o => (g5.alloc o).cell; have d_g5 := fun o o2 => ((g5.alloc o).alloc o2).cell; have e_g5 := fun o => (g5.alloc o).free
    go_wp2_with fail
    refine (HOT.out _ (H.out.below B)).mono ?_
    rintro e w' ⟨rfl, b⟩
    try clear c_g4 f_g4 a_g4 d_g4 e_g4
    replace g4 := g4.below b; have c_g4 := g4.cell; have f_g4 := g4.free; have a_g4 := fun o => (g4.alloc o).cell; have d_g4 := fun o o2 => ((g4.alloc o).alloc o2).cell; have e_g4 := fun o => (g4.alloc o).free; try clear c_g5 f_g5 a_g5 d_g5 e_g5
    replace g5 := g5.below b; have c_g5 := g5.cell; have f_g5 := g5.free; have a_g5 := fun o => (g5.alloc o).cell; have d_g5 := fun o o2 => ((g5.alloc o).alloc o2).cell; have e_g5 := fun o => (g5.alloc o).free; replace B := B.trans (b.mono B.size); clear b
    go_wp2_with ((with_reducible refine at_store 146 7 15 ?_); refine wpList_storeNew rfl _ _ _ rfl rfl V rfl rfl (by rw [HVs.out]; exact size_table) (by rw [HVs.out]; rfl) HV1.out ?_; intro W q1 b1; have k4 := (g4.below b1).cell; have l4 := (g4.below b1).free; have k5 := (g5.below b1).cell; have l5 := (g5.below b1).free)
    refine bodyPost_ret (v := .tuple #[.agg #[.int .i64 0, .int .i64 0], .agg #[.int .i64 0, .int .u64 0], .int .i64 r]) (by simp [results, Try.results48, go_sem, k4, l4, k5, l5]) rfl ⟨rfl, ?_⟩
    replace B := B.trans (b1.mono B.size)
    (repeat (first | refine Below.setCell ?_ (by first | exact Nat.le_refl _ | (simp <;> omega)) _ | refine Below.alloc ?_ (by first | exact B.size | (have := B.size; simp <;> omega)) _)); exact B
end Go.Proofs.Ytodbbacmdjcheaa
namespace Go.Proofs.Ytodbbacmdjcheaa
open Go.RowKit L01 L02 L18
end Go.Proofs.Ytodbbacmdjcheaa
namespace Go.Proofs.Ytodbbacmdjcheaa
open Go.RowKit L01 L02 L18
theorem Slots.at_ {P : Program} {w : World} {v : Value} {L : List Sl} {t e : TypeId} (h : Slots w v L) (ht : P.underlying t = some (.slice e)) (hi : (P.info? e).map (·.size) = some 3) {k : Nat} (hk : k < L.length) :
    ∃ b o s, (∀ W, (Instr.indexAt t v (.int .i64 (k : Int))).run P W = .ok (.pointer (some ⟨b, o, none⟩)) W) ∧ w.cell? ⟨b, o, none⟩ = some (.int .i64 s.gen) ∧ w.cell? ⟨b, o + 1, none⟩ = some (.bool s.used) ∧ w.cell? ⟨b, o + 2, none⟩ = some (.int .i64 s.at_) ∧ Hid (L[k]? = some s) := by
  have hix := fun W => Rd.ixN h ht hi hk W
  obtain ⟨b, o, c, rfl, hb, hc, hcell⟩ := Rd.form h (by omega)
  have hs : L[k]? = some L[k] := List.getElem?_eq_getElem hk
  have t0 := tabL_get L k _ hs 0 (by omega)
  have t1 := tabL_get L k _ hs 1 (by omega)
  have t2 := tabL_get L k _ hs 2 (by omega)
  refine ⟨b, o + k * 3, L[k], fun W => hix W, hcell _ _ t0, hcell _ _ t1, hcell _ _ t2, Lib.hid hs⟩
end Go.Proofs.Ytodbbacmdjcheaa
namespace Go.Proofs.Ytodbbacmdjcheaa
open Go.RowKit L01 L02 L18
theorem OwnS.of {w : World} {B E n : Nat} {v : Value} {xs : List Value} {L : List Sl} (h : w.ownsRow B E 3 v n xs) (hx : xs = tabL L) : OwnS w B E v L := by
  subst hx
  have hn : n = L.length := by have := h.1; rw [tabL_len] at this; omega
  subst hn; exact h
end Go.Proofs.Ytodbbacmdjcheaa
namespace Go.Proofs.Ytodbbacmdjcheaa
open Go.RowKit L01 L02 L05 L13 L14 L15 L18 L19
set_option maxHeartbeats 1000000 in
theorem float19_any (x : UInt64) (b : Bool) (hb : b = decide (L20.FloatOk x)) (w : World) : Calls Try.prog 93 #[.int .u64 x.toNat] w fun e w' => e = .returned (.bool b) ∧ Below w.heap.size w w' := by
  have B : Below w.heap.size w w := Below.refl _ _
  have hxl := toNat_lt x
  have e1 := and_int (a := (x.toNat : Int) / 4503599627370496) 11 (by omega) (by omega) 2047 (by decide) (by omega)
  rw [show ((2 ^ 11 : Nat) : Int) = 2048 from rfl] at e1
  have hwr : IntKind.u64.wrap ((x.toNat : Int) * 4096) = (x.toNat : Int) * 4096 % 18446744073709551616 := rfl
  have HB := Lib.hid hb; clear hb
  go_enter Try.func93, Try.ntmps93
  go_wp2
  all_goals
    go_ret
    refine ⟨ret_bool ?_, B⟩
    rw [HB.out]
    first
      | (rw [eq_comm, decide_eq_true_iff]; unfold L20.FloatOk; omega)
      | (rw [Bool.eq_iff_iff, decide_eq_true_iff]; simp only [Bool.or_eq_true, beq_iff_eq]; unfold L20.FloatOk; omega)
set_option maxRecDepth 100000 in
theorem zero19_any (v : Value) (l : List UInt64) (a : Nat) (b : Bool) (hb : b = decide (Zr l a)) (ha : a + 8 ≤ l.length) (hl : l.length ≤ 1000000) (w : World) (h : Words w v l) :
    Calls Try.prog 92 #[v, .int .i64 a] w fun e w' => e = .returned (.bool b) ∧ w = w' := by
  obtain ⟨dv, hcut, hW⟩ := h.cut (P := Try.prog) Try.underlying25 one_u64 (lo := (a : Int)) (hi := (a : Int) + 8) (by omega) (by omega) (by omega)
  obtain ⟨m, hm⟩ : ∃ m, m = (l.drop a).take 8 := ⟨_, rfl⟩
  have hW' : Words w dv m := by
    rw [hm]
    rw [show ((a : Int) + 8).toNat - (a : Int).toNat = 8 by omega, Int.toNat_natCast] at hW
    exact hW
  have hlm : m.length = 8 := by rw [hm, List.length_take, List.length_drop]; omega
  have ln := Rd.len hW' Try.underlying25
  rw [hlm] at ln
  have hget : ∀ i x, m[i]? = some x → l.getD (a + i) 0 = x := fun i x hx => by
    rw [hm] at hx
    have hi : i < 8 := by have := (List.getElem?_eq_some_iff.1 hx).1; simp at this; omega
    rw [List.getElem?_take_of_lt hi, List.getElem?_drop] at hx
    rw [List.getD_eq_getElem?_getD, hx]; rfl
  have hw8 : IntKind.i64.wrap ((a : Int) + 8) = (a : Int) + 8 := IntWalk.i64_in _ (by omega)
  have HB := Lib.hid hb; have HG := Lib.hid hget; have HL := Lib.hid hlm
  clear hb hget hlm hW hm h
  go_enter Try.func92, Try.ntmps92
  go_wp2
  go_loopg [13] 8 (fun g i wr => ∃ j : Nat, j ≤ 8 ∧ g = 8 - j ∧ i = .int .i64 j ∧ wr = w ∧ Hid (∀ i, i < j → l.getD (a + i) 0 = 0))
  case atStart => exact ⟨0, by omega, rfl, rfl, rfl, Lib.hid (fun i hi => by omega)⟩
  case round =>
    obtain ⟨j, hj, rfl, rfl, rfl, hz⟩ := hrel
    by_cases hlt : j < 8
    · obtain ⟨ad, x, ia, m0, hx⟩ := hW'.at_ (P := Try.prog) Try.underlying25 one_u64 (k := j) (by rw [HL.out]; exact hlt)
      have hgx := HG.out j x hx.out
      by_cases hx0 : x = 0
      · have h0 : ((x.toNat : Int) != 0) = false := by rw [hx0]; rfl
        have HZ : Hid (∀ i, i < j + 1 → l.getD (a + i) 0 = 0) := Lib.hid (fun i hi => by
          by_cases e : i = j
          · subst e; rw [hgx, hx0]
          · exact hz.out i (by omega))
        clear hgx hx0
        go_wp2
        go_roundg (8 - (j + 1))
        case measure => omega
        case rel => exact ⟨j + 1, by omega, rfl, by go_num, rfl, HZ⟩
      · have h0 : ((x.toNat : Int) != 0) = true := by rw [bne_iff_ne]; intro e; exact hx0 (UInt64.toNat.inj (by simp; omega))
        have hb : b = false := by rw [HB.out, decide_eq_false_iff_not]; exact fun h => hx0 (by rw [← hgx]; exact h j hlt)
        subst hb
        clear hgx hx0
        go_wp2
        go_ret
        exact ⟨rfl, rfl⟩
    · obtain rfl : j = 8 := by omega
      have hb : b = true := by rw [HB.out, decide_eq_true_iff]; exact hz.out
      subst hb
      go_wp2
      go_ret
      exact ⟨rfl, rfl⟩
/-- what is known of an image: its words, its types, its slots, its objects and their addresses -/
structure Sg (W : World) (v tv sv bv : Value) (g n : Nat) (l : List UInt64) (T : List (List UInt8)) (S : List Sl) (O : List Hb) : Prop where
  w : Words W v l
  t : Typs W tv T
  s : Slots W sv S
  b : Blks W bv O
  m : MapL Try.prog 3 4 (.bool false) W g n (fun a => .bool (decide (IsObj O a)))
theorem Sg.below {W W' : World} {v tv sv bv : Value} {g n : Nat} {l : List UInt64} {T : List (List UInt8)} {S : List Sl} {O : List Hb} (h : Sg W v tv sv bv g n l T S O) (hb : Below W.heap.size W W') : Sg W' v tv sv bv g n l T S O :=
  ⟨h.w.below hb, h.t.below hb, Slots.below h.s hb, h.b.below hb, h.m.below hb⟩
theorem zero_bool (W : World) : (zeroValue 4).run Try.prog W = .ok (.bool false) W := by kernel_rfl
theorem Sg.look {W : World} {v tv sv bv : Value} {g n : Nat} {l : List UInt64} {T : List (List UInt8)} {S : List Sl} {O : List Hb} (h : Sg W v tv sv bv g n l T S O) {a : Int} (ha : i64Ok a) :
    (Instr.lookup 153 (.map (some g)) (.int .i64 a) false).run Try.prog W = .ok (.bool (decide (IsObj O a))) W := h.m.lookB Try.underlying3 Try.underlying153 Try.underlying4 (zero_bool W) ha
/-- an object lies in its image -/
def In19 (l : List UInt64) (b : Hb) : Prop := ∃ a : Nat, b.at_ = a ∧ BkOk b ∧ (a : Int) + b.size ≤ l.length
set_option maxRecDepth 100000 in
set_option maxHeartbeats 1000000 in
theorem idleB_any (v tv sv bv : Value) (g : Nat) (b : Hb) (c : Bool) (hc : c = decide (Idle b)) (w : World) :
    Calls Try.prog 75 #[.agg #[v, tv, sv, bv, .map (some g)], .agg #[.int .i64 b.at_, .int .i64 b.size, .int .i64 b.kind, .int .i64 b.ty, .bool b.mark, .int .u64 b.next.toNat]] w fun e w' => e = .returned (.bool c) ∧ Below w.heap.size w w' := by
  have B : Below w.heap.size w w := Below.refl _ _
  have HC := Lib.hid hc; clear hc
  obtain ⟨at_, size, kind, ty, mark, next⟩ := b
  dsimp only at *
  have hn0 : ((next.toNat : Int) == 0) = decide (next = 0) := by
    rw [Bool.eq_iff_iff, beq_iff_eq, decide_eq_true_iff]
    exact ⟨fun e => UInt64.toNat.inj (by simp; omega), fun e => by rw [e]; rfl⟩
  obtain ⟨q, hq⟩ : ∃ q, q = decide (next = 0) := ⟨_, rfl⟩
  rw [← hq] at hn0
  have hc : c = (!mark && q) := by rw [HC.out, hq]; unfold Idle; cases mark <;> simp
  clear HC hq
  cases mark
  all_goals
    go_enter Try.func75, Try.ntmps75
    go_wp2
    go_ret
    refine ⟨by rw [hc]; rfl, ?_⟩
    (repeat (first | refine Below.setCell ?_ (by first | exact Nat.le_refl _ | (simp <;> omega)) _ | refine Below.alloc ?_ (by first | exact B.size | (have := B.size; simp <;> omega)) _)); exact B
set_option maxRecDepth 100000 in
set_option maxHeartbeats 1000000 in
theorem typedB_any (v tv sv bv : Value) (g : Nat) (T : List (List UInt8)) (b : Hb) (c : Bool) (hc : c = decide (Typed T b)) (h0 : 0 ≤ b.ty) (hT : ∀ t ∈ T, kErr t = 0) (w : World) (h : Typs w tv T) :
    Calls Try.prog 76 #[.agg #[v, tv, sv, bv, .map (some g)], .agg #[.int .i64 b.at_, .int .i64 b.size, .int .i64 b.kind, .int .i64 b.ty, .bool b.mark, .int .u64 b.next.toNat]] w fun e w' => e = .returned (.bool c) ∧ Below w.heap.size w w' := by
  have B : Below w.heap.size w w := Below.refl _ _
  have lt := h.len
  obtain ⟨NT, hNT⟩ : ∃ N, N = T.length := ⟨_, rfl⟩
  rw [← hNT] at lt
  by_cases hlt : b.ty < T.length
  · obtain ⟨q, hq⟩ := Int.eq_ofNat_of_zero_le h0
    obtain ⟨at_, size, kind, ty, mark, next⟩ := b
    dsimp only at *
    subst hq
    have hqT : q < T.length := by omega
    obtain ⟨ad, x, t, it, m0, ht, hx⟩ := h.at_ (k := q) hqT
    have hk : kErr t = 0 := hT t (List.mem_of_getElem? ht.out)
    obtain ⟨n, hn⟩ : ∃ n, n = kSize t := ⟨_, rfl⟩
    have KT := Lib.hid (fun w h => KSize_any x t n 0 hn hk.symm w h)
    have hck : c = decide (n = size) := by
      rw [hc, Bool.eq_iff_iff, decide_eq_true_iff, decide_eq_true_iff]
      unfold Typed kindsB
      rw [Int.toNat_natCast, List.getD_eq_getElem?_getD, ht.out, hn, kSize, if_pos hk]
      simp only [Option.getD_some]
      exact ⟨fun h => h.2.symm, fun h => ⟨hlt, h.symm⟩⟩
    have n1 : ¬ (NT : Int) ≤ (q : Int) := by omega
    have HX := hx
    have HC := Lib.hid hck
    clear hc hT hk hn ht hx hck hlt hqT h0 hNT
    go_enter Try.func76, Try.ntmps76
    go_upto_region 1 with (fail)
    refine wp_gen (fun Wv => Bx Wv (w.heap.size) (155) (#[v, tv, sv, bv, .map (some g)]) ∧ Bx Wv (w.heap.size + 1) (84) (#[.int .i64 at_, .int .i64 size, .int .i64 kind, .int .i64 q, .bool mark, .int .u64 next.toNat]) ∧ Below w.heap.size w Wv) ⟨(((Bx.at_ (by simp)).alloc _)), ((Bx.at_ (by simp))), (((Below.refl _ w).alloc (by simp <;> omega) _).alloc (by simp <;> omega) _)⟩ ?_
    rintro wa1 ⟨g1, g2, b⟩
    replace m0 := cell_later b m0; replace B := B.trans (b.mono B.size); clear b
    have c_g1 := g1.cell; have f_g1 := g1.free; have a_g1 := fun o => (g1.alloc o).cell; have d_g1 := fun o o2 => ((g1.alloc o).alloc o2).cell; have e_g1 := fun o => (g1.alloc o).free
    have c_g2 := g2.cell; have f_g2 := g2.free; have a_g2 := fun o => (g2.alloc o).cell; have d_g2 := fun o o2 => ((g2.alloc o).alloc o2).cell; have e_g2 := fun o => (g2.alloc o).free
    go_wp2_with fail
    refine (KT.out _ (Byts.below HX.out B)).mono ?_
    rintro e w' ⟨rfl, rfl⟩
    go_wp2
    go_ret
    refine ⟨ret_bool ?_, B⟩
    rw [HC.out, Bool.eq_iff_iff, beq_iff_eq, decide_eq_true_iff]
  · have hc0 : c = false := by rw [hc, decide_eq_false_iff_not]; exact fun h => hlt h.1
    obtain ⟨at_, size, kind, ty, mark, next⟩ := b
    dsimp only at *
    have n1 : (NT : Int) ≤ ty := by omega
    subst hc0
    clear hc hT hlt hNT h
    go_enter Try.func76, Try.ntmps76
    go_upto_region 1 with (fail)
    refine wp_gen (fun Wv => Bx Wv (w.heap.size) (155) (#[v, tv, sv, bv, .map (some g)]) ∧ Bx Wv (w.heap.size + 1) (84) (#[.int .i64 at_, .int .i64 size, .int .i64 kind, .int .i64 ty, .bool mark, .int .u64 next.toNat]) ∧ Below w.heap.size w Wv) ⟨(((Bx.at_ (by simp)).alloc _)), ((Bx.at_ (by simp))), (((Below.refl _ w).alloc (by simp <;> omega) _).alloc (by simp <;> omega) _)⟩ ?_
    rintro wa1 ⟨g1, g2, b⟩
    replace B := B.trans (b.mono B.size); clear b
    have c_g1 := g1.cell; have f_g1 := g1.free; have a_g1 := fun o => (g1.alloc o).cell; have d_g1 := fun o o2 => ((g1.alloc o).alloc o2).cell; have e_g1 := fun o => (g1.alloc o).free
    have c_g2 := g2.cell; have f_g2 := g2.free; have a_g2 := fun o => (g2.alloc o).cell; have d_g2 := fun o o2 => ((g2.alloc o).alloc o2).cell; have e_g2 := fun o => (g2.alloc o).free
    go_wp2
    go_ret
    exact ⟨rfl, B⟩
end Go.Proofs.Ytodbbacmdjcheaa
