/- Contracts of tables of slots. -/
import Derived.Test.YteiocllnhljpjaaC18b
import Derived.Test.YteiocllnhljpjaaRow
set_option linter.unusedVariables false
set_option linter.unusedSimpArgs false
namespace Go.Proofs.Yteiocllnhljpjaa
open Go.RowKit L01 L02 L18

def slC (s : Sl) : List Value := [.int .i64 s.gen, .bool s.used, .int .i64 s.at_]
def tabL (L : List Sl) : List Value := L.flatMap slC
def tab (L : List Sl) : Array Value := (tabL L).toArray
def tabOf (l : List UInt64) : List Sl := if openErr l = 0 then slots l else List.replicate 16 .none
theorem tabL_len (L : List Sl) : (tabL L).length = L.length * 3 := by
  induction L with
  | nil => rfl
  | cons s L ih => rw [tabL, List.flatMap_cons, List.length_append, ← tabL, ih]; simp [slC]; omega
theorem tabL_get : ∀ (L : List Sl) (k : Nat) (s : Sl), L[k]? = some s → ∀ i, i < 3 → (tabL L)[k * 3 + i]? = (slC s)[i]?
  | [], _, _, h, _, _ => by cases h
  | t :: L, 0, s, h, i, hi => by
    simp at h; subst h
    rw [tabL, List.flatMap_cons, Nat.zero_mul, Nat.zero_add, List.getElem?_append_left (by simpa [slC] using hi)]
  | t :: L, k + 1, s, h, i, hi => by
    rw [tabL, List.flatMap_cons, List.getElem?_append_right (by simp [slC]; omega)]
    rw [show (k + 1) * 3 + i - (slC t).length = k * 3 + i by simp [slC]; omega]
    exact tabL_get L k s (by simpa using h) i hi
theorem tabL_one (L : List Sl) : ∀ u ∈ tabL L, u.oneCell' = true := by
  intro u hu
  obtain ⟨s, _, hs⟩ := List.mem_flatMap.1 hu
  simp [slC] at hs
  rcases hs with rfl | rfl | rfl <;> rfl
theorem tab_size (L : List Sl) : (tab L).size = L.length * 3 := by simp [tab, tabL_len]
theorem ws_len {l : List UInt64} (h : SizeOk l.length) : (ws l).length = 16 := by
  have := h.1; simp [ws]; omega
theorem ws_get {l : List UInt64} {k : Nat} {x : UInt64} (hk : k < 16) (h : l[112 + k]? = some x) : (ws l)[k]? = some x := by
  rw [ws, List.getElem?_take, if_pos hk, List.getElem?_drop]; exact h
theorem slots_len {l : List UInt64} (h : SizeOk l.length) : (slots l).length = 16 := by rw [slots, List.length_map, ws_len h]
theorem tabOf_len (l : List UInt64) : (tabOf l).length = 16 := by
  unfold tabOf
  split
  · rename_i h
    unfold openErr at h
    split at h
    · exact slots_len ‹_›
    · omega
  · simp
theorem tabOf_size (l : List UInt64) : (tab (tabOf l)).size = 48 := by rw [tab_size, tabOf_len]
theorem size_table : (Try.prog.info? 78).map (·.size) = some 48 := by kernel_rfl
theorem size_slot : (Try.prog.info? 23).map (·.size) = some 3 := by kernel_rfl

theorem z48_one : (#[.int .i64 0, .bool false, .int .i64 0, .int .i64 0, .bool false, .int .i64 0, .int .i64 0, .bool false, .int .i64 0, .int .i64 0, .bool false, .int .i64 0, .int .i64 0, .bool false, .int .i64 0, .int .i64 0, .bool false, .int .i64 0, .int .i64 0, .bool false, .int .i64 0, .int .i64 0, .bool false, .int .i64 0, .int .i64 0, .bool false, .int .i64 0, .int .i64 0, .bool false, .int .i64 0, .int .i64 0, .bool false, .int .i64 0, .int .i64 0, .bool false, .int .i64 0, .int .i64 0, .bool false, .int .i64 0, .int .i64 0, .bool false, .int .i64 0, .int .i64 0, .bool false, .int .i64 0, .int .i64 0, .bool false, .int .i64 0] : Array Value).all (·.oneCell') = true := by simp [Value.oneCell']

theorem slot_one (s : Sl) : (#[.int .i64 s.gen, .bool s.used, .int .i64 s.at_] : Array Value).all (·.oneCell') = true := by simp [Value.oneCell']

/-- the cells cs have the first k slots of S -/
def TabTo (S : List Sl) (k : Nat) (cs : Array Value) : Prop := cs.size = 48 ∧ ∀ j, j < k * 3 → cs[j]? = (tabL S)[j]?
theorem TabTo.zero (S : List Sl) {cs : Array Value} (h : cs.size = 48) : TabTo S 0 cs := ⟨h, fun j hj => by omega⟩
theorem TabTo.succ {S : List Sl} {k : Nat} {cs : Array Value} {s : Sl} (h : TabTo S k cs) (hs : S[k]? = some s) (hk : k < 16) : TabTo S (k + 1) (putL cs (k * 3) (slC s)) := by
  refine ⟨by rw [putL_size]; exact h.1, fun j hj => ?_⟩
  rw [putL_get _ _ _ _ (by rw [h.1]; simp [slC]; omega)]
  by_cases h1 : k * 3 ≤ j
  · rw [if_pos ⟨h1, by simp [slC]; omega⟩]
    have := tabL_get S k s hs (j - k * 3) (by omega)
    rw [show k * 3 + (j - k * 3) = j by omega] at this
    exact this.symm
  · rw [if_neg (by omega)]
    exact h.2 j (by omega)
theorem TabTo.done {S : List Sl} {cs : Array Value} (h : TabTo S 16 cs) (hS : S.length = 16) : cs = tab S := by
  apply Array.ext_getElem?
  intro j
  by_cases hj : j < 48
  · rw [h.2 j hj]; simp [tab]
  · rw [Array.getElem?_eq_none (by rw [h.1]; omega), Array.getElem?_eq_none (by rw [tab_size, hS]; omega)]
theorem openErr_of {l : List UInt64} (h : SizeOk l.length) (h2 : ∀ x ∈ (ws l).take 16, Right (spl x)) : openErr l = 0 := by
  rw [openErr, if_pos h, if_pos]
  intro x hx
  exact h2 x (by rw [List.take_of_length_le (by rw [ws_len h]; omega)]; exact hx)
theorem openErr_no {l : List UInt64} (h : SizeOk l.length) {k : Nat} {x : UInt64} (hx : (ws l)[k]? = some x) (hn : ¬ Right (spl x)) : openErr l = 50 := by
  rw [openErr, if_pos h, if_neg]
  intro hall
  exact hn (hall x (List.mem_of_getElem? hx))
theorem right_take {l : List UInt64} {k : Nat} {x : UInt64} (h : ∀ y ∈ (ws l).take k, Right (spl y)) (hx : (ws l)[k]? = some x) (hr : Right (spl x)) : ∀ y ∈ (ws l).take (k + 1), Right (spl y) := by
  intro y hy
  rw [List.take_add_one, hx] at hy
  rcases List.mem_append.1 hy with hy | hy
  · exact h y hy
  · simp at hy; subst hy; exact hr
theorem tabNo (l : List UInt64) (h : openErr l ≠ 0) : tab (tabOf l) = #[.int .i64 0, .bool false, .int .i64 0, .int .i64 0, .bool false, .int .i64 0, .int .i64 0, .bool false, .int .i64 0, .int .i64 0, .bool false, .int .i64 0, .int .i64 0, .bool false, .int .i64 0, .int .i64 0, .bool false, .int .i64 0, .int .i64 0, .bool false, .int .i64 0, .int .i64 0, .bool false, .int .i64 0, .int .i64 0, .bool false, .int .i64 0, .int .i64 0, .bool false, .int .i64 0, .int .i64 0, .bool false, .int .i64 0, .int .i64 0, .bool false, .int .i64 0, .int .i64 0, .bool false, .int .i64 0, .int .i64 0, .bool false, .int .i64 0, .int .i64 0, .bool false, .int .i64 0, .int .i64 0, .bool false, .int .i64 0] := by rw [tabOf, if_neg h]; rfl

set_option maxRecDepth 100000 in
set_option maxHeartbeats 2000000 in
theorem open_any (v : Value) (l : List UInt64) (V : Array Value) (hV : V = tab (tabOf l)) (r : Int) (hr : r = openErr l) (w : World) (h : Words w v l) :
    Calls Try.prog 34 #[v] w fun e w' => e = .returned (.tuple #[.agg V, .int .i64 r]) ∧ Below w.heap.size w w' := by
  have B : Below w.heap.size w w := Below.refl _ _
  have HV := Lib.hid hV; have HR := Lib.hid hr; clear hV hr
  have CT := fun w h => Check_any v l w h
  by_cases hs : SizeOk l.length
  · rw [chk_ok hs] at CT
    have HC := Lib.hid CT; have H := Lib.hid h; have HS := Lib.hid hs
    have hlen := hs.1
    clear h hs CT
    go_enter Try.func34, Try.ntmps34
    go_wp2_with fail
    refine calls_gen (fun Wv => Bx Wv (w.heap.size) (78) (#[.int .i64 0, .bool false, .int .i64 0, .int .i64 0, .bool false, .int .i64 0, .int .i64 0, .bool false, .int .i64 0, .int .i64 0, .bool false, .int .i64 0, .int .i64 0, .bool false, .int .i64 0, .int .i64 0, .bool false, .int .i64 0, .int .i64 0, .bool false, .int .i64 0, .int .i64 0, .bool false, .int .i64 0, .int .i64 0, .bool false, .int .i64 0, .int .i64 0, .bool false, .int .i64 0, .int .i64 0, .bool false, .int .i64 0, .int .i64 0, .bool false, .int .i64 0, .int .i64 0, .bool false, .int .i64 0, .int .i64 0, .bool false, .int .i64 0, .int .i64 0, .bool false, .int .i64 0, .int .i64 0, .bool false, .int .i64 0]) ∧ Below w.heap.size w Wv) ⟨((Bx.at_ (by simp))), ((Below.refl _ w).alloc (by simp <;> omega) _)⟩ ?_
    rintro w' ⟨q0, b⟩
    replace B := B.trans (b.mono B.size); clear b
    have hz1 : w.heap.size < w'.heap.size := q0.lt
    obtain ⟨w1, hw1⟩ : ∃ w1, w1 = w' := ⟨_, rfl⟩
    subst hw1
    refine (HC.out _ (H.out.below B)).mono ?_
    rintro e w2 ⟨rfl, rfl⟩
    go_wp2
    refine wp_gen (fun Wv => Bx Wv (w1.heap.size) (78) (#[.int .i64 0, .bool false, .int .i64 0, .int .i64 0, .bool false, .int .i64 0, .int .i64 0, .bool false, .int .i64 0, .int .i64 0, .bool false, .int .i64 0, .int .i64 0, .bool false, .int .i64 0, .int .i64 0, .bool false, .int .i64 0, .int .i64 0, .bool false, .int .i64 0, .int .i64 0, .bool false, .int .i64 0, .int .i64 0, .bool false, .int .i64 0, .int .i64 0, .bool false, .int .i64 0, .int .i64 0, .bool false, .int .i64 0, .int .i64 0, .bool false, .int .i64 0, .int .i64 0, .bool false, .int .i64 0, .int .i64 0, .bool false, .int .i64 0, .int .i64 0, .bool false, .int .i64 0, .int .i64 0, .bool false, .int .i64 0]) ∧ Below w1.heap.size w1 Wv) ⟨((Bx.at_ (by simp))), ((Below.refl _ w1).alloc (by simp <;> omega) _)⟩ ?_
    rintro w' ⟨q1, b⟩
    replace q0 := q0.below b; replace B := B.trans (b.mono B.size); clear b
    have hq : w1.heap.size ≠ w.heap.size := by have := hz1; omega
    obtain ⟨S, hS⟩ : ∃ S, S = slots l := ⟨_, rfl⟩
    have HSS := Lib.hid hS; clear hS
    have HB := Lib.hid B; have HG := Lib.hid (And.intro q0 q1); clear B q0 q1
    go_loopw [15] (fun i wr => ∃ k : Nat, k ≤ 16 ∧ i = .int .i64 k ∧ Hid (Bx wr w.heap.size 78 #[.int .i64 0, .bool false, .int .i64 0, .int .i64 0, .bool false, .int .i64 0, .int .i64 0, .bool false, .int .i64 0, .int .i64 0, .bool false, .int .i64 0, .int .i64 0, .bool false, .int .i64 0, .int .i64 0, .bool false, .int .i64 0, .int .i64 0, .bool false, .int .i64 0, .int .i64 0, .bool false, .int .i64 0, .int .i64 0, .bool false, .int .i64 0, .int .i64 0, .bool false, .int .i64 0, .int .i64 0, .bool false, .int .i64 0, .int .i64 0, .bool false, .int .i64 0, .int .i64 0, .bool false, .int .i64 0, .int .i64 0, .bool false, .int .i64 0, .int .i64 0, .bool false, .int .i64 0, .int .i64 0, .bool false, .int .i64 0] ∧ (∃ cs, Bx wr w1.heap.size 78 cs ∧ TabTo S k cs) ∧ ∀ x ∈ (ws l).take k, Right (spl x)) ∧ Below w.heap.size w wr) (fun i _ => 16 - (intOf i).toNat)
    case atStart => exact ⟨0, by omega, rfl, Lib.hid ⟨HG.out.1, ⟨_, HG.out.2, TabTo.zero _ rfl⟩, by simp⟩, HB.out⟩
    case round =>
      obtain ⟨k, hk, rfl, hh, B⟩ := hrel
      by_cases hlt : k < 16
      · obtain ⟨ad, x, ia, ca, hx⟩ := (H.out.below B).atI Try.underlying37 one_u64 (k := 112 + (k : Int)) (by omega) (by omega)
        have hx' : (ws l)[k]? = some x := ws_get hlt (by have := hx.out; rwa [show (112 + (k : Int)).toNat = 112 + k by omega] at this)
        have HX := Lib.hid hx'; clear hx hx'
        by_cases hr : Right (spl x)
        · have SP := Split_r x (spl x) 0 (by rw [spl0, if_pos hr]) (by rw [splErr, if_pos hr])
          obtain ⟨s, hs⟩ : ∃ s, s = spl x := ⟨_, rfl⟩
          rw [← hs] at SP
          have HSP := Lib.hid SP; have HRR := Lib.hid hr; have HSX := Lib.hid hs; clear SP hr hs
          go_wp2_with fail
          refine (HSP.out _).mono ?_
          rintro e w2 ⟨rfl, b⟩
          obtain ⟨gg0, ⟨cs, gg1, ht⟩, hright⟩ := hh.out
          have b0 := gg0.below b; have b1 := gg1.below b; replace B := B.trans (b.mono B.size)
          clear b gg0 gg1
          have HT := Lib.hid ht; have HRT := Lib.hid hright; have hcs : k * 3 + 3 ≤ cs.size := by rw [ht.1]; omega
          clear ht hright
          go_wp2_with ((with_reducible refine at_store 23 33 32 ?_); refine wpList_storePart rfl _ _ _ rfl _ _ _ rfl rfl (b1.alloc _) size_slot (by simpa using hcs) (slot_one _) ?_; intro W c1 S1)
          have hgS : S[k]? = some s := by rw [HSS.out, slots, List.getElem?_map, HX.out, HSX.out]; rfl
          have HGS := Lib.hid hgS; have HC1 := Lib.hid c1; have HS1 := Lib.hid S1; have HB0 := Lib.hid b0; have HB := Lib.hid B
          clear hgS c1 S1 b0 B b1 hcs hh
          go_roundw
          case rel =>
            refine ⟨k + 1, by omega, by go_num, Lib.hid ⟨HS1.out.2 (by omega) (HB0.out.alloc _), ⟨_, HC1.out, ?_⟩, right_take HRT.out HX.out HRR.out⟩, HS1.out.1 (HB.out.alloc HB.out.size _) (by omega)⟩
            have := HT.out.succ HGS.out hlt
            exact this
          case measure => simp [intOf]; omega
        · have SP := Split_r x .none 50 (by rw [spl0, if_neg hr]) (by rw [splErr, if_neg hr])
          have he := openErr_no HS.out HX.out hr
          have hz := tabNo l (by rw [he]; omega)
          have HSP := Lib.hid SP; have HE := Lib.hid he; have HZ := Lib.hid hz; clear SP hr he hz
          go_wp2_with fail
          refine (HSP.out _).mono ?_
          rintro e w2 ⟨rfl, b⟩
          obtain ⟨gg0, ⟨cs, gg1, ht⟩, hright⟩ := hh.out
          have b0 := gg0.below b; replace B := B.trans (b.mono B.size)
          clear b gg0 gg1 ht hright hh
          go_wp2_with ((with_reducible refine at_store 78 2 29 ?_); refine wpList_storeRow rfl _ _ _ rfl _ _ rfl rfl (b0.alloc _) size_table rfl z48_one ?_; intro W g0 S0)
          refine bodyPost_ret (results_row rfl _ rfl g0 _ Try.underlying78 rfl size_table) rfl ⟨?_, S0.1 (B.alloc B.size _) (Nat.le_refl _)⟩
          rw [HV.out, HZ.out, HR.out, HE.out]; rfl
      · obtain rfl : k = 16 := by omega
        obtain ⟨gg0, ⟨cs, gg1, ht⟩, hright⟩ := hh.out
        have he := openErr_of HS.out hright
        have hcs := ht.done (by rw [HSS.out]; exact slots_len HS.out)
        have hV : V = cs := by rw [HV.out, tabOf, if_pos he, ← HSS.out, hcs]
        subst hV
        have hsz : V.size = 48 := ht.1
        have h1 : V.all (·.oneCell') = true := by rw [hcs]; exact all_oneCell_toArray (tabL_one S)
        have HCS := Lib.hid hcs; have HE := Lib.hid he; clear hcs he hright ht hh
        have HSZ := Lib.hid hsz; have H1 := Lib.hid h1; clear hsz h1
        go_wp2_with (first
          | ((with_reducible refine at_load 35 78 5 ?_); refine wpList_loadRow rfl _ _ rfl _ rfl gg1 _ Try.underlying78 rfl (by rw [HSZ.out]; exact size_table) ?_)
          | ((with_reducible refine at_store 78 2 35 ?_); refine wpList_storeRow rfl _ _ _ rfl _ _ rfl rfl gg0 (by rw [HSZ.out]; exact size_table) (by rw [HSZ.out]; rfl) H1.out ?_; intro W g0 S0))
        refine bodyPost_ret (results_row rfl _ rfl g0 _ Try.underlying78 rfl (by rw [HSZ.out]; exact size_table)) rfl ⟨?_, S0.1 B (Nat.le_refl _)⟩
        rw [HR.out, HE.out]; rfl
  · have hr8 : openErr l = 8 := by rw [openErr, if_neg hs]
    have hz := tabNo l (by rw [hr8]; omega)
    rw [chk_no hs] at CT
    have HZ := Lib.hid hz; have HR8 := Lib.hid hr8
    have HC := Lib.hid CT; have H := Lib.hid h; clear h hs hz hr8 CT
    go_enter Try.func34, Try.ntmps34
    go_wp2_with fail
    refine calls_gen (fun Wv => Bx Wv (w.heap.size) (78) (#[.int .i64 0, .bool false, .int .i64 0, .int .i64 0, .bool false, .int .i64 0, .int .i64 0, .bool false, .int .i64 0, .int .i64 0, .bool false, .int .i64 0, .int .i64 0, .bool false, .int .i64 0, .int .i64 0, .bool false, .int .i64 0, .int .i64 0, .bool false, .int .i64 0, .int .i64 0, .bool false, .int .i64 0, .int .i64 0, .bool false, .int .i64 0, .int .i64 0, .bool false, .int .i64 0, .int .i64 0, .bool false, .int .i64 0, .int .i64 0, .bool false, .int .i64 0, .int .i64 0, .bool false, .int .i64 0, .int .i64 0, .bool false, .int .i64 0, .int .i64 0, .bool false, .int .i64 0, .int .i64 0, .bool false, .int .i64 0]) ∧ Below w.heap.size w Wv) ⟨((Bx.at_ (by simp))), ((Below.refl _ w).alloc (by simp <;> omega) _)⟩ ?_
    rintro w' ⟨q0, b⟩
    replace B := B.trans (b.mono B.size); clear b
    refine (HC.out _ (H.out.below B)).mono ?_
    rintro e w1 ⟨rfl, rfl⟩
    go_wp2_with ((with_reducible refine at_store 78 2 13 ?_); refine wpList_storeRow rfl _ _ _ rfl _ _ rfl rfl q0 size_table rfl z48_one ?_; intro W g0 S0)
    refine bodyPost_ret (results_row rfl _ rfl g0 _ Try.underlying78 rfl size_table) rfl ⟨?_, S0.1 B (Nat.le_refl _)⟩
    rw [HV.out, HZ.out, HR.out, HR8.out]; rfl
end Go.Proofs.Yteiocllnhljpjaa
