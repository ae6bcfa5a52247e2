/- Contracts of the functions that the laws 'R' reach, part 13. No condition. -/
import Derived.Test.YtiiilaojllmmiaaMRl
set_option linter.unusedVariables false
set_option linter.unusedSimpArgs false
namespace Go.Proofs.Ytiiilaojllmmiaa
open Go.RowKit L01 L02 L05 L06 L07 L13 L14 L15 L18 L19
theorem findB_first : ∀ {L : List Hb} {a : Int} {j : Nat} {b : Hb}, L[j]? = some b → b.at_ = a → (∀ i c, i < j → L[i]? = some c → c.at_ ≠ a) → findB L a = some b
  | [], _, _, _, h, _, _ => by cases h
  | c :: L, a, 0, b, h, e, _ => by
    simp at h; subst h
    unfold findB
    rw [List.find?_cons_of_pos (by simpa using e)]
  | c :: L, a, j + 1, b, h, e, hz => by
    have hc := hz 0 c (by omega) rfl
    unfold findB
    rw [List.find?_cons_of_neg (by simpa using hc)]
    exact findB_first (by simpa using h) e (fun i c' hi hc' => hz (i + 1) c' (by omega) (by simpa using hc'))
theorem findB_none {L : List Hb} {a : Int} (h : ∀ b ∈ L, b.at_ ≠ a) : findB L a = none := by
  unfold findB
  rw [List.find?_eq_none]
  intro b hb
  simpa using h b hb
set_option maxRecDepth 100000 in
set_option maxHeartbeats 2000000 in
theorem Find_any (v : Value) (l : List UInt64) (a : Int) (b : Hb) (r : Int) (hb : b = find l a) (hr : r = findErr l a) (w : World) (h : Words w v l) :
    Calls Try.prog 41 #[v, .int .i64 a] w fun e w' => e = .returned (.tuple #[.agg #[.int .i64 b.at_, .int .i64 b.size, .int .i64 b.kind, .int .i64 b.ty, .bool b.mark, .int .u64 b.next.toNat], .int .i64 r]) ∧ Below w.heap.size w w' := by
  have B : Below w.heap.size w w := Below.refl _ _
  have H := Lib.hid h
  obtain ⟨L, hL⟩ : ∃ L, L = allL l := ⟨_, rfl⟩
  obtain ⟨c, hc⟩ : ∃ c, c = allErr l := ⟨_, rfl⟩
  have WT := Lib.hid (fun w h => AllW_any v l L c hL hc w h)
  by_cases h0 : c = 0
  case neg =>
    have hr0 : r = c := by rw [hr, findErr, if_neg (by rw [← hc]; exact h0), hc]
    have hb0 : b = .none := by rw [hb, find, if_neg (by rw [← hr, hr0]; exact h0)]
    subst hr0; subst hb0
    have n1 : (r != 0) = true := by rw [bne_iff_ne]; exact h0
    clear hb hr h hL hc h0
    go_enter Try.func41, Try.ntmps41
    go_upto_region 1 with (fail)
    refine wp_gen (fun Wv => Bx Wv (w.heap.size) (74) (#[.int .i64 0, .int .i64 0, .int .i64 0, .int .i64 0, .bool false, .int .u64 0]) ∧ Below w.heap.size w Wv) ⟨((Bx.at_ (by simp))), ((Below.refl _ w).alloc (by simp <;> omega) _)⟩ ?_
    rintro wa1 ⟨g1, b⟩
    replace B := B.trans (b.mono B.size); clear b
    have c_g1 := g1.cell; have f_g1 := g1.free; have a_g1 := fun o => (g1.alloc o).cell; have d_g1 := fun o o2 => ((g1.alloc o).alloc o2).cell; have e_g1 := fun o => (g1.alloc o).free
    go_wp2_with fail
    refine (WT.out _ (H.out.below B)).mono ?_
    rintro e wa2 ⟨xl, rfl, ol, b⟩
    try clear c_g1 f_g1 a_g1 d_g1 e_g1
    replace g1 := g1.below b; have c_g1 := g1.cell; have f_g1 := g1.free; have a_g1 := fun o => (g1.alloc o).cell; have d_g1 := fun o o2 => ((g1.alloc o).alloc o2).cell; have e_g1 := fun o => (g1.alloc o).free; replace B := B.trans (b.mono B.size); clear b
    go_wp2
    refine bodyPost_ret (v := .tuple #[.agg #[.int .i64 0, .int .i64 0, .int .i64 0, .int .i64 0, .bool false, .int .u64 0], .int .i64 r]) (by simp [results, Try.results41, go_sem, c_g1, f_g1, a_g1, e_g1]) rfl ?_
    refine ⟨rfl, ?_⟩
    (repeat (first | refine Below.setCell ?_ (by first | exact Nat.le_refl _ | (simp <;> omega)) _ | refine Below.alloc ?_ (by first | exact B.size | (have := B.size; simp <;> omega)) _)); exact B
  case pos =>
    subst h0
    have hl9 : L.length ≤ 960 := by rw [hL]; exact all_len hc.symm
    have hrb : (∀ x ∈ L, x.at_ = a → findB L a = some x → b = x ∧ r = 0) ∧ (findB L a = none → b = .none ∧ r = 6) := by
      constructor
      · intro x hx e hf
        have hr0 : r = 0 := by rw [hr, findErr, if_pos hc.symm, ← hL, hf]; rfl
        exact ⟨by rw [hb, find, if_pos (by rw [← hr]; exact hr0), ← hL, hf]; rfl, hr0⟩
      · intro hf
        have hr0 : r = 6 := by rw [hr, findErr, if_pos hc.symm, ← hL, hf]; rfl
        exact ⟨by rw [hb, find, if_neg (by rw [← hr, hr0]; decide)], hr0⟩
    obtain ⟨N, hN⟩ : ∃ N, N = L.length := ⟨_, rfl⟩
    have HN := Lib.hid hN; have HRB := Lib.hid hrb
    have hN9 : N ≤ 960 := by omega
    clear hb hr h hL hc hl9 hN hrb
    go_enter Try.func41, Try.ntmps41
    go_upto_region 1 with (fail)
    refine wp_gen (fun Wv => Bx Wv (w.heap.size) (74) (#[.int .i64 0, .int .i64 0, .int .i64 0, .int .i64 0, .bool false, .int .u64 0]) ∧ Below w.heap.size w Wv) ⟨((Bx.at_ (by simp))), ((Below.refl _ w).alloc (by simp <;> omega) _)⟩ ?_
    rintro wa1 ⟨g1, b⟩
    replace B := B.trans (b.mono B.size); clear b
    have c_g1 := g1.cell; have f_g1 := g1.free; have a_g1 := fun o => (g1.alloc o).cell; have d_g1 := fun o o2 => ((g1.alloc o).alloc o2).cell; have e_g1 := fun o => (g1.alloc o).free
    go_wp2_with fail
    refine (WT.out _ (H.out.below B)).mono ?_
    rintro e wa2 ⟨xl, rfl, ol, b⟩
    try clear c_g1 f_g1 a_g1 d_g1 e_g1
    replace g1 := g1.below b; have c_g1 := g1.cell; have f_g1 := g1.free; have a_g1 := fun o => (g1.alloc o).cell; have d_g1 := fun o o2 => ((g1.alloc o).alloc o2).cell; have e_g1 := fun o => (g1.alloc o).free; replace B := B.trans (b.mono B.size); clear b
    have lx := ol.rd.len
    rw [← HN.out] at lx
    have HO := Lib.hid ol.rd
    have hB1 := B.size; have hp1 := g1.lt
    have HB := Lib.hid (And.intro g1 B)
    have HBB := Lib.hid (Below.refl wa2.heap.size wa2)
    clear ol g1 B c_g1 f_g1 a_g1 d_g1 e_g1
    go_wp2
    go_loopg [21] N (fun g i wr => ∃ j : Nat, j ≤ N ∧ g = N - j ∧ i = .int .i64 j ∧ Hid (Below wa2.heap.size wa2 wr ∧ ∀ i c, i < j → L[i]? = some c → c.at_ ≠ a))
    case atStart => exact ⟨0, by omega, by omega, rfl, Lib.hid ⟨HBB.out, fun i c hi => by omega⟩⟩
    case round =>
      obtain ⟨j, hj, rfl, rfl, hh⟩ := hrel
      clear HBB
      have B2 := hh.out.1
      have HZ := Lib.hid hh.out.2
      have g1 := HB.out.1.below B2
      have B := HB.out.2.trans (B2.mono hB1)
      clear hh
      by_cases hlt : j < N
      · obtain ⟨bb, oo, x, ia, m0, m1, m2, m3, m4, m5, hx, _⟩ := (Blks.below HO.out B2).at_ (k := j) (by rw [← HN.out]; exact hlt)
        have HX := Lib.hid hx.out
        by_cases he : x.at_ = a
        · have k1 : (x.at_ == a) = true := by rw [beq_iff_eq]; exact he
          obtain ⟨q1, q2⟩ := HRB.out.1 x (List.mem_of_getElem? hx.out) he (findB_first hx.out he HZ.out)
          subst q2
          have HQ := Lib.hid q1
          have ne12 : w.heap.size ≠ wr.heap.size := by have := g1.lt; omega
          clear he q1 hx
          go_upto_region 7 with (fail)
          refine wp_gen (fun Wv => Bx Wv (wr.heap.size) (74) (#[.int .i64 x.at_, .int .i64 x.size, .int .i64 x.kind, .int .i64 x.ty, .bool x.mark, .int .u64 x.next.toNat]) ∧ Below wr.heap.size wr Wv) ⟨((Bx.at_ (by simp))), ((Below.refl _ wr).alloc (by simp <;> omega) _)⟩ ?_
          rintro wa3 ⟨g2, b⟩
          try clear c_g1 f_g1 a_g1 d_g1 e_g1
          replace g1 := g1.below b; have c_g1 := g1.cell; have f_g1 := g1.free; have a_g1 := fun o => (g1.alloc o).cell; have d_g1 := fun o o2 => ((g1.alloc o).alloc o2).cell; have e_g1 := fun o => (g1.alloc o).free; replace B2 := B2.trans (b.mono B2.size); replace B := B.trans (b.mono B.size); clear b
          have c_g2 := g2.cell; have f_g2 := g2.free; have a_g2 := fun o => (g2.alloc o).cell; have d_g2 := fun o o2 => ((g2.alloc o).alloc o2).cell; have e_g2 := fun o => (g2.alloc o).free
          go_wp2
          refine bodyPost_ret (v := .tuple #[.agg #[.int .i64 x.at_, .int .i64 x.size, .int .i64 x.kind, .int .i64 x.ty, .bool x.mark, .int .u64 x.next.toNat], .int .i64 0]) (by simp [results, Try.results41, go_sem, c_g1, f_g1, a_g1, e_g1, c_g2, f_g2, a_g2, e_g2]) rfl ?_
          refine ⟨by rw [HQ.out], ?_⟩
          (repeat (first | refine Below.setCell ?_ (by first | exact Nat.le_refl _ | (simp <;> omega)) _ | refine Below.alloc ?_ (by first | exact B.size | (have := B.size; simp <;> omega)) _)); exact B
        · have k1 : (x.at_ == a) = false := by rw [beq_eq_false_iff_ne]; exact he
          have HZ2 : Hid (∀ i c, i < j + 1 → L[i]? = some c → c.at_ ≠ a) := Lib.hid (fun i c hi hc => by
            by_cases e : i = j
            · subst e; rw [HX.out] at hc; injection hc with hc; subst hc; exact he
            · exact HZ.out i c (by omega) hc)
          clear he hx
          go_upto_region 7 with (fail)
          refine wp_gen (fun Wv => Bx Wv (wr.heap.size) (74) (#[.int .i64 x.at_, .int .i64 x.size, .int .i64 x.kind, .int .i64 x.ty, .bool x.mark, .int .u64 x.next.toNat]) ∧ Below wr.heap.size wr Wv) ⟨((Bx.at_ (by simp))), ((Below.refl _ wr).alloc (by simp <;> omega) _)⟩ ?_
          rintro wa4 ⟨g2, b⟩
          replace B2 := B2.trans (b.mono B2.size); replace B := B.trans (b.mono B.size); clear b
          have c_g2 := g2.cell; have f_g2 := g2.free; have a_g2 := fun o => (g2.alloc o).cell; have d_g2 := fun o o2 => ((g2.alloc o).alloc o2).cell; have e_g2 := fun o => (g2.alloc o).free
          have HQ := Lib.hid (And.intro B2 HZ2.out)
          go_wp2
          go_roundg (N - (j + 1))
          case measure => omega
          case rel => exact ⟨j + 1, by omega, rfl, by go_num, HQ⟩
      · obtain rfl : j = N := by omega
        have hf : findB L a = none := findB_none (fun y hy => by
          obtain ⟨i, hi⟩ := List.getElem?_of_mem hy
          exact HZ.out i y (by rw [HN.out]; exact (List.getElem?_eq_some_iff.1 hi).1) hi)
        obtain ⟨q1, q2⟩ := HRB.out.2 hf
        subst q2
        have HQ := Lib.hid q1
        clear hf q1
        have c_g1 := g1.cell; have f_g1 := g1.free
        go_wp2
        refine bodyPost_ret (v := .tuple #[.agg #[.int .i64 0, .int .i64 0, .int .i64 0, .int .i64 0, .bool false, .int .u64 0], .int .i64 6]) (by simp [results, Try.results41, go_sem, c_g1, f_g1]) rfl ?_
        refine ⟨by rw [HQ.out]; rfl, ?_⟩
        (repeat (first | refine Below.setCell ?_ (by first | exact Nat.le_refl _ | (simp <;> omega)) _ | refine Below.alloc ?_ (by first | exact B.size | (have := B.size; simp <;> omega)) _)); exact B
set_option maxRecDepth 100000 in
set_option maxHeartbeats 1000000 in
theorem Same22_any (va vb : Value) (La Lb : List (Int × UInt64)) (r : Bool) (hr : r = decide (La = Lb)) (w : World) (ha : Ents w va La) (hb : Ents w vb Lb) :
    Calls Try.prog 28 #[va, vb] w fun e w' => e = .returned (.bool r) ∧ Below w.heap.size w w' := by
  have B : Below w.heap.size w w := Below.refl _ _
  have la1 := Rd.len ha Try.underlying32; have lb1 := Rd.len hb Try.underlying32
  have la2 := Rd.len_le ha; have lb2 := Rd.len_le hb
  have HA := Lib.hid ha; have HB := Lib.hid hb; have HR := Lib.hid hr; clear ha hb hr
  obtain ⟨na, hna⟩ : ∃ na, na = La.length := ⟨_, rfl⟩
  obtain ⟨nb, hnb⟩ : ∃ nb, nb = Lb.length := ⟨_, rfl⟩
  rw [← hna] at la1 la2; rw [← hnb] at lb1 lb2
  have Hna := Lib.hid hna; have Hnb := Lib.hid hnb; clear hna hnb
  by_cases hl : na = nb
  · subst hl
    go_enter Try.func28, Try.ntmps28
    go_wp2
    have HBB := Lib.hid B; clear B
    go_loopw [5] (fun i wr => ∃ k : Nat, k ≤ na ∧ i = .int .i64 k ∧ Hid (La.take k = Lb.take k) ∧ Below w.heap.size w wr) (fun i _ => na - (intOf i).toNat)
    case atStart => exact ⟨0, Nat.zero_le _, rfl, Lib.hid rfl, HBB.out⟩
    case round =>
      obtain ⟨k, hk, rfl, heq, B⟩ := hrel
      by_cases hlt : k < na
      · obtain ⟨b, o, s1, s2, ia, m0, m1, hs⟩ := (HA.out.below B).at_ (k := k) (by have := Hna.out; omega)
        obtain ⟨b', o', t1, t2, ib, m3, m4, ht⟩ := (HB.out.below B).at_ (k := k) (by have := Hnb.out; omega)
        obtain ⟨c, hc⟩ : ∃ c, c = !(s1 == t1 && s2 == t2) := ⟨_, rfl⟩
        have q := fun W => ent_neq s1 t1 s2 t2 c hc W
        have HC := Lib.hid hc; clear hc
        cases c
        · go_wp2
          refine wp_region_calm (by kernel_rfl) (by kernel_rfl) ?_
          have c_m0 := fun x : Fut _ => cell_later x.h m0
          have c_m1 := fun x : Fut _ => cell_later x.h m1
          have c_m3 := fun x : Fut _ => cell_later x.h m3
          have c_m4 := fun x : Fut _ => cell_later x.h m4
          repeat (go_big_quiet_step (fail))
          refine wpQuiet_nil ?_
          intro _ hw'
          obtain ⟨xq, hw''⟩ := hw'
          subst hw''
          clear c_m0; replace m0 := cell_later xq.h m0
          clear c_m1; replace m1 := cell_later xq.h m1
          clear c_m3; replace m3 := cell_later xq.h m3
          clear c_m4; replace m4 := cell_later xq.h m4
          replace B := B.trans (xq.h.mono B.size)
          go_wp2
          go_roundw
          case rel =>
            have e : s1 = t1 ∧ s2 = t2 := by have := HC.out; simpa using this
            refine ⟨k + 1, by omega, by go_num, Lib.hid ?_, B⟩
            rw [List.take_add_one, List.take_add_one, heq.out, hs.out, ht.out, e.1, e.2]
          case measure => simp [intOf]; omega
        · go_wp2
          refine wp_region_calm (by kernel_rfl) (by kernel_rfl) ?_
          have c_m0 := fun x : Fut _ => cell_later x.h m0
          have c_m1 := fun x : Fut _ => cell_later x.h m1
          have c_m3 := fun x : Fut _ => cell_later x.h m3
          have c_m4 := fun x : Fut _ => cell_later x.h m4
          repeat (go_big_quiet_step (fail))
          refine wpQuiet_nil ?_
          intro _ hw'
          obtain ⟨xq, hw''⟩ := hw'
          subst hw''
          clear c_m0; replace m0 := cell_later xq.h m0
          clear c_m1; replace m1 := cell_later xq.h m1
          clear c_m3; replace m3 := cell_later xq.h m3
          clear c_m4; replace m4 := cell_later xq.h m4
          replace B := B.trans (xq.h.mono B.size)
          go_wp2
          go_ret
          refine ⟨ret_bool ?_, B⟩
          have e : ¬ (s1 = t1 ∧ s2 = t2) := by have := HC.out; intro h; simp [h.1, h.2] at this
          rw [HR.out, eq_comm, decide_eq_false_iff_not]
          intro hab
          have h1 := hs.out; have h2 := ht.out
          rw [hab, h2] at h1
          injection h1 with h1
          injection h1 with h1 h3
          exact e ⟨h1.symm, h3.symm⟩
      · obtain rfl : k = na := by omega
        go_wp2
        go_ret
        refine ⟨ret_bool ?_, B⟩
        have h1 := heq.out
        rw [List.take_of_length_le (by have := Hna.out; omega), List.take_of_length_le (by have := Hnb.out; omega)] at h1
        rw [HR.out, h1]; simp
  · have hl' : ((na : Int) != nb) = true := by rw [bne_iff_ne]; omega
    go_enter Try.func28, Try.ntmps28
    go_wp2
    go_ret
    refine ⟨ret_bool ?_, B⟩
    rw [HR.out, eq_comm, decide_eq_false_iff_not]
    intro hab
    have h1 := Hna.out; have h2 := Hnb.out
    rw [hab] at h1; omega
end Go.Proofs.Ytiiilaojllmmiaa



namespace Go.Proofs.Ytiiilaojllmmiaa
open Go.RowKit L02 L13 L18 L20
theorem size_obj : (Try.prog.info? 140).map (·.size) = some 2 := by kernel_rfl
theorem info_obj : (Try.prog.info? 140).map (fun i => (i.zero, i.size, i.bytes)) = some (some (.agg #[.int .i64 0, .slice none 0 0]), 2, 32) := by kernel_rfl
/-- the cells of objects, whose fields are the slices vs -/
def obC : List Ob → List Value → List Value
  | o :: L, x :: vs => i64 o.ty :: x :: obC L vs
  | _, _ => []
theorem obC_len : ∀ {L : List Ob} {vs : List Value}, vs.length = L.length → (obC L vs).length = L.length * 2
  | [], _, _ => rfl
  | o :: L, [], h => by simp at h
  | o :: L, x :: vs, h => by rw [obC, List.length_cons, List.length_cons, obC_len (by simpa using h), List.length_cons]; omega
theorem obC_get : ∀ {L : List Ob} {vs : List Value} {k : Nat} {o : Ob} {x : Value}, L[k]? = some o → vs[k]? = some x → (obC L vs)[k * 2]? = some (i64 o.ty) ∧ (obC L vs)[k * 2 + 1]? = some x
  | [], _, _, _, _, h, _ => by simp at h
  | o :: L, [], _, _, _, _, h => by simp at h
  | o :: L, x :: vs, 0, o', x', h, h' => by simp at h h'; subst h; subst h'; simp [obC]
  | o :: L, x :: vs, k + 1, o', x', h, h' => by
    have := obC_get (L := L) (vs := vs) (k := k) (by simpa using h) (by simpa using h')
    rw [obC, show (k + 1) * 2 = k * 2 + 1 + 1 by omega, show k * 2 + 1 + 1 + 1 = (k * 2 + 1) + 1 + 1 by omega]
    simpa using this
theorem obC_snoc : ∀ {L : List Ob} {vs : List Value} {o : Ob} {x : Value}, vs.length = L.length → obC (L ++ [o]) (vs ++ [x]) = obC L vs ++ [i64 o.ty, x]
  | [], [], _, _, _ => rfl
  | [], x :: vs, _, _, h => by simp at h
  | o :: L, [], _, _, h => by simp at h
  | o :: L, x :: vs, o', x', h => by
    rw [List.cons_append, List.cons_append, obC, obC_snoc (by simpa using h), obC]; rfl
/-- A slice of objects. -/
def Objs (w : World) (v : Value) (L : List Ob) : Prop := ∃ vs : List Value, vs.length = L.length ∧ Rd w 2 v L.length (obC L vs) ∧ ∀ (i : Nat) x o, vs[i]? = some x → L[i]? = some o → Words w x o.fs
/-- .. of the call's own, their fields too, which lie apart -/
def OwnO (w : World) (base : Nat) (v : Value) (L : List Ob) : Prop := ∃ vs : List Value, vs.length = L.length ∧ w.ownsRow base 140 2 v L.length (obC L vs) ∧ (∀ (i : Nat) x o, vs[i]? = some x → L[i]? = some o → OwnW w base 25 x o.fs) ∧
  ∀ (i j : Nat) x y, i ≠ j → vs[i]? = some x → vs[j]? = some y → x.ownBlock = none ∨ x.ownBlock ≠ y.ownBlock
theorem OwnO.rd {w : World} {base : Nat} {v : Value} {L : List Ob} (h : OwnO w base v L) : Objs w v L := by
  obtain ⟨vs, h1, h2, h4, _⟩ := h; exact ⟨vs, h1, Rd.of_own h2, fun i x l h5 h6 => (h4 i x l h5 h6).rd⟩
theorem Objs.below {w w' : World} {v : Value} {L : List Ob} (h : Objs w v L) (hb : Below w.heap.size w w') : Objs w' v L := by
  obtain ⟨vs, h1, h2, h3⟩ := h; exact ⟨vs, h1, h2.below hb, fun i x l h4 h5 => (h3 i x l h4 h5).below hb⟩
theorem OwnO.below {w w' : World} {base : Nat} {v : Value} {L : List Ob} (h : OwnO w base v L) (hb : Below w.heap.size w w') : OwnO w' base v L := by
  obtain ⟨vs, h1, h2, h4, h5⟩ := h; exact ⟨vs, h1, own_below h2 hb, fun i x l h5 h6 => (h4 i x l h5 h6).below hb, h5⟩
theorem OwnO.mono {w : World} {base base' : Nat} {v : Value} {L : List Ob} (h : OwnO w base v L) (hb : base' ≤ base) : OwnO w base' v L := by
  obtain ⟨vs, h1, h2, h4, h5⟩ := h; exact ⟨vs, h1, own_mono h2 hb, fun i x l h5 h6 => own_mono (h4 i x l h5 h6) hb, h5⟩
theorem OwnT.mono {w : World} {base base' : Nat} {v : Value} {L : List (List UInt8)} (h : OwnT w base v L) (hb : base' ≤ base) : OwnT w base' v L := by
  obtain ⟨vs, h1, h2, h4⟩ := h; exact ⟨vs, h1, own_mono h2 hb, fun i x l h5 h6 => own_mono (h4 i x l h5 h6) hb⟩
theorem OwnO.nil (w : World) (base : Nat) : OwnO w base (.slice none 0 0) [] := ⟨[], rfl, World.ownsRow_nil w base _ 2, fun i x l h => by simp at h, fun i j x y _ h => by simp at h⟩
theorem Objs.nil (w : World) : Objs w (.slice none 0 0) [] := (OwnO.nil w 0).rd
theorem Typs.nil (w : World) : Typs w (.slice none 0 0) [] := (OwnT.nil w 0).rd
theorem Slots.nil (w : World) : Slots w (.slice none 0 0) [] := Rd.nil w 3
theorem Objs.len {w : World} {v : Value} {L : List Ob} (h : Objs w v L) : ∀ ty W, (Builtin.len_ #[85] ty #[v]).run Try.prog W = .ok (.int .i64 (L.length : Int)) W := by
  obtain ⟨vs, h1, h2, h3⟩ := h; exact Rd.len h2 Try.underlying85
theorem Objs.len_le {w : World} {v : Value} {L : List Ob} (h : Objs w v L) : L.length ≤ 9223372036854775807 := by
  obtain ⟨vs, h1, h2, h3⟩ := h; exact Rd.len_le h2
theorem Slots.len {w : World} {v : Value} {L : List Sl} (h : Slots w v L) : ∀ ty W, (Builtin.len_ #[50] ty #[v]).run Try.prog W = .ok (.int .i64 (L.length : Int)) W := Rd.len h Try.underlying50
theorem Slots.len_le {w : World} {v : Value} {L : List Sl} (h : Slots w v L) : L.length ≤ 9223372036854775807 := Rd.len_le h
theorem Objs.at_ {w : World} {v : Value} {L : List Ob} (h : Objs w v L) {k : Nat} (hk : k < L.length) :
    ∃ b q x o, (∀ W, (Instr.indexAt 85 v (.int .i64 (k : Int))).run Try.prog W = .ok (.pointer (some ⟨b, q, none⟩)) W) ∧ w.cell? ⟨b, q, none⟩ = some (.int .i64 o.ty) ∧ w.cell? ⟨b, q + 1, none⟩ = some x ∧ Hid (L[k]? = some o) ∧ Hid (Words w x o.fs) ∧ b < w.heap.size := by
  obtain ⟨vs, h1, h2, h3⟩ := h
  have hv : vs[k]? = some vs[k] := List.getElem?_eq_getElem (by omega)
  have hl : L[k]? = some L[k] := List.getElem?_eq_getElem hk
  have hix := fun W => Rd.ixN h2 Try.underlying85 size_obj hk W
  obtain ⟨b, q, c, rfl, hb, hc, hcell⟩ := Rd.form h2 (by omega)
  obtain ⟨c0, c1⟩ := obC_get hl hv
  exact ⟨b, q + k * 2, vs[k], L[k], fun W => hix W, hcell _ _ c0, hcell _ _ c1, Lib.hid hl, Lib.hid (h3 k _ _ hv hl), hb⟩
theorem Words.oneCell {w : World} {x : Value} {l : List UInt64} (h : Words w x l) : x.oneCell' = true := by
  obtain ⟨A, c, rfl, _⟩ := h; rfl
theorem Typs.oneCell {w : World} {x : Value} {l : List (List UInt8)} (h : Typs w x l) : x.oneCell' = true := by
  obtain ⟨_, _, ⟨A, c, rfl, _⟩, _⟩ := h; rfl
theorem Objs.oneCell {w : World} {x : Value} {l : List Ob} (h : Objs w x l) : x.oneCell' = true := by
  obtain ⟨_, _, ⟨A, c, rfl, _⟩, _⟩ := h; rfl
theorem Slots.oneCell {w : World} {x : Value} {l : List Sl} (h : Slots w x l) : x.oneCell' = true := by
  obtain ⟨A, c, rfl, _⟩ := h; rfl
/-- A model: three slices. -/
structure Mod (w : World) (tv ov sv : Value) (m : Mo) : Prop where
  t : Typs w tv m.types
  o : Objs w ov m.objs
  s : Slots w sv m.slots
structure OwnM (w : World) (base E : Nat) (tv ov sv : Value) (m : Mo) : Prop where
  t : OwnT w base tv m.types
  o : OwnO w base ov m.objs
  s : OwnS w base E sv m.slots
theorem Mod.below {w w' : World} {tv ov sv : Value} {m : Mo} (h : Mod w tv ov sv m) (hb : Below w.heap.size w w') : Mod w' tv ov sv m := ⟨h.t.below hb, h.o.below hb, h.s.below hb⟩
theorem OwnM.below {w w' : World} {base E : Nat} {tv ov sv : Value} {m : Mo} (h : OwnM w base E tv ov sv m) (hb : Below w.heap.size w w') : OwnM w' base E tv ov sv m := ⟨h.t.below hb, h.o.below hb, h.s.below hb⟩
theorem OwnM.rd {w : World} {base E : Nat} {tv ov sv : Value} {m : Mo} (h : OwnM w base E tv ov sv m) : Mod w tv ov sv m := ⟨h.t.rd, h.o.rd, h.s.rd⟩
theorem OwnM.mono {w : World} {base base' E : Nat} {tv ov sv : Value} {m : Mo} (h : OwnM w base E tv ov sv m) (hb : base' ≤ base) : OwnM w base' E tv ov sv m := ⟨h.t.mono hb, h.o.mono hb, own_mono h.s hb⟩
theorem Mod.nil (w : World) : Mod w (.slice none 0 0) (.slice none 0 0) (.slice none 0 0) .nil := ⟨Typs.nil w, Objs.nil w, Slots.nil w⟩
end Go.Proofs.Ytiiilaojllmmiaa
namespace Go.Proofs.Ytiiilaojllmmiaa
open Go.RowKit L02 L13 L18 L20
set_option maxHeartbeats 1000000 in
theorem float_any (x : UInt64) (b : Bool) (hb : b = decide (FloatOk x)) (w : World) : Calls Try.prog 90 #[.int .u64 x.toNat] w fun e w' => e = .returned (.bool b) ∧ Below w.heap.size w w' := by
  have B : Below w.heap.size w w := Below.refl _ _
  have hxl := toNat_lt x
  have e1 := and_int (a := (x.toNat : Int) / 4503599627370496) 11 (by omega) (by omega) 2047 (by decide) (by omega)
  rw [show ((2 ^ 11 : Nat) : Int) = 2048 from rfl] at e1
  have hwr : IntKind.u64.wrap ((x.toNat : Int) * 4096) = (x.toNat : Int) * 4096 % 18446744073709551616 := rfl
  have HB := Lib.hid hb; clear hb
  go_enter Try.func90, Try.ntmps90
  go_wp2
  all_goals
    go_ret
    refine ⟨ret_bool ?_, B⟩
    rw [HB.out]
    first
      | (rw [eq_comm, decide_eq_true_iff]; unfold FloatOk; omega)
      | (rw [Bool.eq_iff_iff, decide_eq_true_iff]; simp only [Bool.or_eq_true, beq_iff_eq]; unfold FloatOk; omega)
set_option maxHeartbeats 1000000 in
theorem slot_any (tv ov sv : Value) (m : Mo) (s : Sl) (b : Bool) (hb : b = decide (SlOk m.objs.length s)) (w : World) (h : Mod w tv ov sv m) :
    Calls Try.prog 138 #[.agg #[tv, ov, sv], .agg #[.int .i64 s.gen, .bool s.used, .int .i64 s.at_]] w fun e w' => e = .returned (.bool b) ∧ Below w.heap.size w w' := by
  have B : Below w.heap.size w w := Below.refl _ _
  have lo := h.o.len
  have HB := Lib.hid hb; clear hb
  obtain ⟨N, hN⟩ : ∃ N, N = m.objs.length := ⟨_, rfl⟩
  rw [← hN] at lo HB
  clear h hN
  obtain ⟨g, u, a⟩ := s
  dsimp only at *
  cases u
  all_goals
    go_enter Try.func138, Try.ntmps138
    go_wp2
    all_goals
      go_ret
      refine ⟨ret_bool ?_, ?_⟩
      · rw [HB.out]
        exact bool_dec (by simp [SlOk]; try omega)
      · skip
        (repeat (first | refine Below.setCell ?_ (by first | exact Nat.le_refl _ | (simp <;> omega)) _ | refine Below.alloc ?_ (by first | exact B.size | (have := B.size; simp <;> omega)) _)); exact B
end Go.Proofs.Ytiiilaojllmmiaa
namespace Go.Proofs.Ytiiilaojllmmiaa
open Go.RowKit L02 L13 L18 L20
/-- what is asked of a field, as the code asks it -/
theorem fd_split (n : Nat) (k : UInt8) (v : UInt64) : (¬ FdOk n k v ∧ k.toNat = 2 ∧ ¬ FloatOk v) ∨ (¬ FdOk n k v ∧ k.toNat = 3 ∧ n < v.toNat) ∨ (FdOk n k v ∧ k.toNat = 2 ∧ FloatOk v) ∨ (FdOk n k v ∧ k.toNat = 3 ∧ v.toNat ≤ n) ∨ (FdOk n k v ∧ k.toNat ≠ 2 ∧ k.toNat ≠ 3) := by
  unfold FdOk
  by_cases h2 : k.toNat = 2
  · by_cases hf : FloatOk v
    · exact .inr (.inr (.inl ⟨⟨fun _ => hf, fun h => by omega⟩, h2, hf⟩))
    · exact .inl ⟨fun h => hf (h.1 h2), h2, hf⟩
  · by_cases h3 : k.toNat = 3
    · by_cases hv : v.toNat ≤ n
      · exact .inr (.inr (.inr (.inl ⟨⟨fun h => by omega, fun _ => hv⟩, h3, hv⟩)))
      · exact .inr (.inl ⟨fun h => hv (h.2 h3), h3, by omega⟩)
    · exact .inr (.inr (.inr (.inr ⟨⟨fun h => by omega, fun h => by omega⟩, h2, h3⟩)))
set_option maxRecDepth 100000 in
set_option maxHeartbeats 4000000 in
theorem object_any (tv ov sv x : Value) (m : Mo) (o : Ob) (b : Bool) (hb : b = decide (ObOk m.types m.objs.length o)) (w : World) (h : Mod w tv ov sv m) (hx : Words w x o.fs) :
    Calls Try.prog 137 #[.agg #[tv, ov, sv], .agg #[.int .i64 o.ty, x]] w fun e w' => e = .returned (.bool b) ∧ Below w.heap.size w w' := by
  have B : Below w.heap.size w w := Below.refl _ _
  have lt := h.t.len; have lo := h.o.len; have lx := Rd.len hx Try.underlying22
  have lo' := h.o.len_le; have lx' := Rd.len_le hx
  obtain ⟨NT, hNT⟩ : ∃ N, N = m.types.length := ⟨_, rfl⟩
  obtain ⟨NO, hNO⟩ : ∃ N, N = m.objs.length := ⟨_, rfl⟩
  obtain ⟨n, hn⟩ : ∃ N, N = o.fs.length := ⟨_, rfl⟩
  rw [← hNT] at lt; rw [← hNO] at lo lo' hb; rw [← hn] at lx lx'
  have H := Lib.hid h; have HX := Lib.hid hx; have HNT := Lib.hid hNT; have HN := Lib.hid hn
  clear h hx hNO
  by_cases hty : 0 ≤ o.ty ∧ o.ty < NT
  · obtain ⟨k, hk⟩ := Int.eq_ofNat_of_zero_le hty.1
    rw [hk] at hty ⊢
    have hkt : k < m.types.length := by omega
    obtain ⟨ad, y, t, iy, m0, ht, hby⟩ := H.out.t.at_ hkt
    have ht' : ty m.types o = t := by rw [ty, hk]; simp [List.getD_eq_getElem?_getD, ht.out]
    have ly := Rd.len hby.out Try.underlying68
    obtain ⟨nt, hnt⟩ : ∃ N, N = t.length := ⟨_, rfl⟩
    rw [← hnt] at ly
    have HNt := Lib.hid hnt
    have ha : decide ((k : Int) < 0) = false := by rw [decide_eq_false_iff_not]; omega
    have hb1 : decide ((NT : Int) ≤ (k : Int)) = false := by rw [decide_eq_false_iff_not]; omega
    have hb2 : decide (NT ≤ k) = false := by rw [decide_eq_false_iff_not]; omega
    by_cases hl : n = nt
    · have hc : ((n : Int) != (nt : Int)) = false := by rw [bne_eq_false_iff_eq]; omega
      have hok : b = decide (∀ i, i < n → FdOk NO (t.getD i 0) (o.fs.getD i 0)) := by
        rw [hb]
        congr 1
        rw [eq_iff_iff, ObOk, ht']
        refine ⟨fun hh i hi => hh.2.2 i (by omega), fun hh => ⟨by omega, by omega, fun i hi => hh i (by omega)⟩⟩
      have HOK := Lib.hid hok; have HL := Lib.hid hl
      clear hb hok ht' hkt hNT hn hnt hl
      go_enter Try.func137, Try.ntmps137
      go_upto_region 1 with (fail)
      refine wp_gen (fun Wv => Bx Wv (w.heap.size) (87) (#[tv, ov, sv]) ∧ Bx Wv (w.heap.size + 1) (140) (#[.int .i64 (k : Int), x]) ∧ Below w.heap.size w Wv) ⟨(((Bx.at_ (by simp)).alloc _)), ((Bx.at_ (by simp))), (((Below.refl _ w).alloc (by simp <;> omega) _).alloc (by simp <;> omega) _)⟩ ?_
      rintro wa1 ⟨g1, g2, b⟩
      replace m0 := cell_later b m0; replace B := B.trans (b.mono B.size); clear b
      have c_g1 := g1.cell; have f_g1 := g1.free; have a_g1 := fun o => (g1.alloc o).cell; have d_g1 := fun o o2 => ((g1.alloc o).alloc o2).cell; have e_g1 := fun o => (g1.alloc o).free
      have c_g2 := g2.cell; have f_g2 := g2.free; have a_g2 := fun o => (g2.alloc o).cell; have d_g2 := fun o o2 => ((g2.alloc o).alloc o2).cell; have e_g2 := fun o => (g2.alloc o).free
      refine wp_region_calm (by kernel_rfl) (by kernel_rfl) ?_
      try clear c_g1 f_g1 a_g1 d_g1 e_g1
      have c_g1 := fun x : Fut _ => (g1.below x.h).cell
      try clear c_g2 f_g2 a_g2 d_g2 e_g2
      have c_g2 := fun x : Fut _ => (g2.below x.h).cell
      have c_m0 := fun x : Fut _ => cell_later x.h m0
      repeat (go_big_quiet_step (fail))
      refine wpQuiet_nil ?_
      intro _ hw'
      obtain ⟨xq, hw''⟩ := hw'
      subst hw''
      clear c_m0; replace m0 := cell_later xq.h m0
      clear c_g1; replace g1 := g1.below xq.h; have c_g1 := g1.cell; have f_g1 := g1.free; have a_g1 := fun o => (g1.alloc o).cell; have d_g1 := fun o o2 => ((g1.alloc o).alloc o2).cell; have e_g1 := fun o => (g1.alloc o).free
      clear c_g2; replace g2 := g2.below xq.h; have c_g2 := g2.cell; have f_g2 := g2.free; have a_g2 := fun o => (g2.alloc o).cell; have d_g2 := fun o o2 => ((g2.alloc o).alloc o2).cell; have e_g2 := fun o => (g2.alloc o).free
      replace B := B.trans (xq.h.mono B.size)
      go_wp2
      have HB := Lib.hid B; have HG1 := Lib.hid g1; have HG2 := Lib.hid g2
      clear B g1 g2 m0 c_g1 c_g2 f_g1 f_g2 a_g1 a_g2 d_g1 d_g2 e_g1 e_g2
      go_loopg [39] n (fun g i wr => ∃ j : Nat, j ≤ n ∧ g = n - j ∧ i = .int .i64 j ∧ Hid ((∀ i, i < j → FdOk NO (t.getD i 0) (o.fs.getD i 0)) ∧ Bx wr w.heap.size 87 #[tv, ov, sv] ∧ Bx wr (w.heap.size + 1) 140 #[.int .i64 (k : Int), x] ∧ Below w.heap.size w wr))
      case atStart => exact ⟨0, by omega, by omega, rfl, Lib.hid ⟨fun i hi => by omega, HG1.out, HG2.out, HB.out⟩⟩
      case round =>
        obtain ⟨j, hj, rfl, rfl, hh⟩ := hrel
        by_cases hlt : j < n
        · have g1 := hh.out.2.1; have g2 := hh.out.2.2.1
          have c_g1 := g1.cell; have c_g2 := g2.cell
          obtain ⟨bd, kk, ib, m1, hkk⟩ := (hby.out.below hh.out.2.2.2).at_ (P := Try.prog) Try.underlying68 one_u8 (k := j) (by have := HNt.out; have := HL.out; omega)
          obtain ⟨cd, v, ic, m2, hv⟩ := (HX.out.below hh.out.2.2.2).at_ (P := Try.prog) Try.underlying22 one_u64 (k := j) (by have := HN.out; omega)
          have ek : t.getD j 0 = kk := by simp [List.getD_eq_getElem?_getD, hkk.out]
          have ev : o.fs.getD j 0 = v := by simp [List.getD_eq_getElem?_getD, hv.out]
          have EK := Lib.hid ek; have EV := Lib.hid ev
          have hjt : j < nt := by have := HL.out; omega
          clear hkk hv ek ev
          have hwn : IntKind.u64.wrap ((NO : Nat) : Int) = (NO : Int) := by show (NO : Int) % 18446744073709551616 = _; omega
          have FT := Lib.hid (fun b hb w => float_any v b hb w)
          have hcase := fd_split NO kk v
          have hno : ∀ z, FdOk NO kk v = z → (z → False) → b = false := fun z hz hf => by
            rw [HOK.out, decide_eq_false_iff_not]
            intro hall
            have := hall j hlt
            rw [EK.out, EV.out, hz] at this
            exact hf this
          have HNO := Lib.hid hno; clear hno
          rcases hcase with ⟨z, e2, zf⟩ | ⟨z, e3, zf⟩ | ⟨z, e2, zf⟩ | ⟨z, e3, zf⟩ | ⟨z, e2, e3⟩
          · have hbf : b = false := HNO.out _ rfl z
            have k2 : ((kk.toNat : Int) == 2) = true := by rw [beq_iff_eq]; omega
            have FT1 := Lib.hid (FT.out false (decide_eq_false zf).symm)
            clear z e2 zf FT
            subst hbf
            go_wp2_with fail
            refine (FT1.out _).mono ?_
            rintro e w2 ⟨rfl, b2⟩
            have B := hh.out.2.2.2.trans (b2.mono hh.out.2.2.2.size)
            go_wp2
            go_ret
            exact ⟨rfl, B⟩
          · have hbf : b = false := HNO.out _ rfl z
            have k2 : ((kk.toNat : Int) == 2) = false := by rw [beq_eq_false_iff_ne]; omega
            have k3 : ((kk.toNat : Int) == 3) = true := by rw [beq_iff_eq]; omega
            clear z e3 FT
            subst hbf
            go_wp2
            go_ret
            exact ⟨rfl, hh.out.2.2.2⟩
          · have k2 : ((kk.toNat : Int) == 2) = true := by rw [beq_iff_eq]; omega
            have k3 : ((kk.toNat : Int) == 3) = false := by rw [beq_eq_false_iff_ne]; omega
            have FT1 := Lib.hid (FT.out true (decide_eq_true zf).symm)
            have HZ := Lib.hid z
            clear z e2 zf FT
            go_wp2_with fail
            refine (FT1.out _).mono ?_
            rintro e w2 ⟨rfl, b2⟩
            have HH := Lib.hid (And.intro (hh.out.2.1.below b2) (And.intro (hh.out.2.2.1.below b2) (hh.out.2.2.2.trans (b2.mono hh.out.2.2.2.size))))
            clear b2 m1 m2 g1 g2 c_g1 c_g2
            go_wp2
            go_roundg (n - (j + 1))
            case measure => omega
            case rel =>
              refine ⟨j + 1, by omega, rfl, by go_num, Lib.hid ⟨fun i hi => ?_, HH.out⟩⟩
              by_cases hij : i < j
              · exact hh.out.1 i hij
              · obtain rfl : i = j := by omega
                rw [EK.out, EV.out]; exact HZ.out
          · have k2 : ((kk.toNat : Int) == 2) = false := by rw [beq_eq_false_iff_ne]; omega
            have k3 : ((kk.toNat : Int) == 3) = true := by rw [beq_iff_eq]; omega
            have HZ := Lib.hid z
            have zf2 : ¬ NO < v.toNat := by omega
            clear z e3 FT zf
            go_wp2
            go_roundg (n - (j + 1))
            case measure => omega
            case rel =>
              refine ⟨j + 1, by omega, rfl, by go_num, Lib.hid ⟨fun i hi => ?_, hh.out.2⟩⟩
              by_cases hij : i < j
              · exact hh.out.1 i hij
              · obtain rfl : i = j := by omega
                rw [EK.out, EV.out]; exact HZ.out
          · have k2 : ((kk.toNat : Int) == 2) = false := by rw [beq_eq_false_iff_ne]; omega
            have k3 : ((kk.toNat : Int) == 3) = false := by rw [beq_eq_false_iff_ne]; omega
            have HZ := Lib.hid z
            clear z e2 e3 FT
            go_wp2
            go_roundg (n - (j + 1))
            case measure => omega
            case rel =>
              refine ⟨j + 1, by omega, rfl, by go_num, Lib.hid ⟨fun i hi => ?_, hh.out.2⟩⟩
              by_cases hij : i < j
              · exact hh.out.1 i hij
              · obtain rfl : i = j := by omega
                rw [EK.out, EV.out]; exact HZ.out
        · obtain rfl : j = n := by omega
          have hbt : b = true := by rw [HOK.out, decide_eq_true_iff]; exact fun i hi => hh.out.1 i hi
          have hntn : ¬ j < nt := by have := HL.out; omega
          subst hbt
          go_wp2
          go_ret
          exact ⟨rfl, hh.out.2.2.2⟩
    · have hc : ((n : Int) != (nt : Int)) = true := by rw [bne_iff_ne]; omega
      have hbf : b = false := by
        rw [hb, decide_eq_false_iff_not, ObOk, ht']
        intro hh; omega
      subst hbf
      clear hb ht' hkt hNT hn hnt hl
      go_enter Try.func137, Try.ntmps137
      go_upto_region 1 with (fail)
      refine wp_gen (fun Wv => Bx Wv (w.heap.size) (87) (#[tv, ov, sv]) ∧ Bx Wv (w.heap.size + 1) (140) (#[.int .i64 (k : Int), x]) ∧ Below w.heap.size w Wv) ⟨(((Bx.at_ (by simp)).alloc _)), ((Bx.at_ (by simp))), (((Below.refl _ w).alloc (by simp <;> omega) _).alloc (by simp <;> omega) _)⟩ ?_
      rintro wa1 ⟨g1, g2, b⟩
      replace m0 := cell_later b m0; replace B := B.trans (b.mono B.size); clear b
      have c_g1 := g1.cell; have f_g1 := g1.free; have a_g1 := fun o => (g1.alloc o).cell; have d_g1 := fun o o2 => ((g1.alloc o).alloc o2).cell; have e_g1 := fun o => (g1.alloc o).free
      have c_g2 := g2.cell; have f_g2 := g2.free; have a_g2 := fun o => (g2.alloc o).cell; have d_g2 := fun o o2 => ((g2.alloc o).alloc o2).cell; have e_g2 := fun o => (g2.alloc o).free
      refine wp_region_calm (by kernel_rfl) (by kernel_rfl) ?_
      try clear c_g1 f_g1 a_g1 d_g1 e_g1
      have c_g1 := fun x : Fut _ => (g1.below x.h).cell
      try clear c_g2 f_g2 a_g2 d_g2 e_g2
      have c_g2 := fun x : Fut _ => (g2.below x.h).cell
      have c_m0 := fun x : Fut _ => cell_later x.h m0
      repeat (go_big_quiet_step (fail))
      refine wpQuiet_nil ?_
      intro _ hw'
      obtain ⟨xq, hw''⟩ := hw'
      subst hw''
      clear c_m0; replace m0 := cell_later xq.h m0
      clear c_g1; replace g1 := g1.below xq.h; have c_g1 := g1.cell; have f_g1 := g1.free; have a_g1 := fun o => (g1.alloc o).cell; have d_g1 := fun o o2 => ((g1.alloc o).alloc o2).cell; have e_g1 := fun o => (g1.alloc o).free
      clear c_g2; replace g2 := g2.below xq.h; have c_g2 := g2.cell; have f_g2 := g2.free; have a_g2 := fun o => (g2.alloc o).cell; have d_g2 := fun o o2 => ((g2.alloc o).alloc o2).cell; have e_g2 := fun o => (g2.alloc o).free
      replace B := B.trans (xq.h.mono B.size)
      go_wp2
      go_ret
      exact ⟨rfl, B⟩
  · have hbf : b = false := by
      rw [hb, decide_eq_false_iff_not, ObOk]
      intro hh; omega
    subst hbf
    obtain ⟨ty, fs⟩ := o
    dsimp only at *
    by_cases hneg : ty < 0
    · have ha : decide (ty < 0) = true := decide_eq_true hneg
      clear hb hNT hn hty hneg
      go_enter Try.func137, Try.ntmps137
      go_upto_region 1 with (fail)
      refine wp_gen (fun Wv => Bx Wv (w.heap.size) (87) (#[tv, ov, sv]) ∧ Bx Wv (w.heap.size + 1) (140) (#[.int .i64 ty, x]) ∧ Below w.heap.size w Wv) ⟨(((Bx.at_ (by simp)).alloc _)), ((Bx.at_ (by simp))), (((Below.refl _ w).alloc (by simp <;> omega) _).alloc (by simp <;> omega) _)⟩ ?_
      rintro wa1 ⟨g1, g2, b⟩
      replace B := B.trans (b.mono B.size); clear b
      have c_g1 := g1.cell; have f_g1 := g1.free; have a_g1 := fun o => (g1.alloc o).cell; have d_g1 := fun o o2 => ((g1.alloc o).alloc o2).cell; have e_g1 := fun o => (g1.alloc o).free
      have c_g2 := g2.cell; have f_g2 := g2.free; have a_g2 := fun o => (g2.alloc o).cell; have d_g2 := fun o o2 => ((g2.alloc o).alloc o2).cell; have e_g2 := fun o => (g2.alloc o).free
      refine wp_region_calm (by kernel_rfl) (by kernel_rfl) ?_
      try clear c_g1 f_g1 a_g1 d_g1 e_g1
      have c_g1 := fun x : Fut _ => (g1.below x.h).cell
      try clear c_g2 f_g2 a_g2 d_g2 e_g2
      have c_g2 := fun x : Fut _ => (g2.below x.h).cell
      repeat (go_big_quiet_step (fail))
      refine wpQuiet_nil ?_
      intro _ hw'
      obtain ⟨xq, hw''⟩ := hw'
      subst hw''
      clear c_g1; replace g1 := g1.below xq.h; have c_g1 := g1.cell; have f_g1 := g1.free; have a_g1 := fun o => (g1.alloc o).cell; have d_g1 := fun o o2 => ((g1.alloc o).alloc o2).cell; have e_g1 := fun o => (g1.alloc o).free
      clear c_g2; replace g2 := g2.below xq.h; have c_g2 := g2.cell; have f_g2 := g2.free; have a_g2 := fun o => (g2.alloc o).cell; have d_g2 := fun o o2 => ((g2.alloc o).alloc o2).cell; have e_g2 := fun o => (g2.alloc o).free
      replace B := B.trans (xq.h.mono B.size)
      go_wp2
      go_ret
      exact ⟨rfl, B⟩
    · have ha : decide (ty < 0) = false := decide_eq_false hneg
      have hb1 : decide ((NT : Int) ≤ ty) = true := by rw [decide_eq_true_iff]; omega
      clear hb hNT hn hty hneg
      go_enter Try.func137, Try.ntmps137
      go_upto_region 1 with (fail)
      refine wp_gen (fun Wv => Bx Wv (w.heap.size) (87) (#[tv, ov, sv]) ∧ Bx Wv (w.heap.size + 1) (140) (#[.int .i64 ty, x]) ∧ Below w.heap.size w Wv) ⟨(((Bx.at_ (by simp)).alloc _)), ((Bx.at_ (by simp))), (((Below.refl _ w).alloc (by simp <;> omega) _).alloc (by simp <;> omega) _)⟩ ?_
      rintro wa1 ⟨g1, g2, b⟩
      replace B := B.trans (b.mono B.size); clear b
      have c_g1 := g1.cell; have f_g1 := g1.free; have a_g1 := fun o => (g1.alloc o).cell; have d_g1 := fun o o2 => ((g1.alloc o).alloc o2).cell; have e_g1 := fun o => (g1.alloc o).free
      have c_g2 := g2.cell; have f_g2 := g2.free; have a_g2 := fun o => (g2.alloc o).cell; have d_g2 := fun o o2 => ((g2.alloc o).alloc o2).cell; have e_g2 := fun o => (g2.alloc o).free
      refine wp_region_calm (by kernel_rfl) (by kernel_rfl) ?_
      try clear c_g1 f_g1 a_g1 d_g1 e_g1
      have c_g1 := fun x : Fut _ => (g1.below x.h).cell
      try clear c_g2 f_g2 a_g2 d_g2 e_g2
      have c_g2 := fun x : Fut _ => (g2.below x.h).cell
      repeat (go_big_quiet_step (fail))
      refine wpQuiet_nil ?_
      intro _ hw'
      obtain ⟨xq, hw''⟩ := hw'
      subst hw''
      clear c_g1; replace g1 := g1.below xq.h; have c_g1 := g1.cell; have f_g1 := g1.free; have a_g1 := fun o => (g1.alloc o).cell; have d_g1 := fun o o2 => ((g1.alloc o).alloc o2).cell; have e_g1 := fun o => (g1.alloc o).free
      clear c_g2; replace g2 := g2.below xq.h; have c_g2 := g2.cell; have f_g2 := g2.free; have a_g2 := fun o => (g2.alloc o).cell; have d_g2 := fun o o2 => ((g2.alloc o).alloc o2).cell; have e_g2 := fun o => (g2.alloc o).free
      replace B := B.trans (xq.h.mono B.size)
      go_wp2
      go_ret
      exact ⟨rfl, B⟩
end Go.Proofs.Ytiiilaojllmmiaa
namespace Go.Proofs.Ytiiilaojllmmiaa
open Go.RowKit L02 L13 L18 L20
set_option maxRecDepth 100000 in
set_option maxHeartbeats 8000000 in
theorem Check20_any (tv ov sv : Value) (m : Mo) (r : Int) (hr : r = chk m) (w : World) (h : Mod w tv ov sv m) :
    Calls Try.prog 120 #[.agg #[tv, ov, sv]] w fun e w' => e = .returned (.int .i64 r) ∧ Below w.heap.size w w' := by
  have B : Below w.heap.size w w := Below.refl _ _
  have lt := h.t.len; have lo := h.o.len; have ls := h.s.len
  have lt' := h.t.len_le; have lo' := h.o.len_le; have ls' := h.s.len_le
  have hbig : 8 < m.types.length ∨ 960 < m.objs.length → r = 4 := fun hm => by rw [hr, chk_many hm]
  have hbad : ¬ (8 < m.types.length ∨ 960 < m.objs.length) → ¬ MoOk m → r = 8 := fun h1 h2 => by rw [hr, chk_bad h1 h2]
  have hgood : ¬ (8 < m.types.length ∨ 960 < m.objs.length) → MoOk m → r = 0 := fun h1 h2 => by rw [hr, chk_zero h1 h2]
  obtain ⟨NT, hNT⟩ : ∃ N, N = m.types.length := ⟨_, rfl⟩
  obtain ⟨NO, hNO⟩ : ∃ N, N = m.objs.length := ⟨_, rfl⟩
  obtain ⟨NS, hNS⟩ : ∃ N, N = m.slots.length := ⟨_, rfl⟩
  rw [← hNT] at lt lt' hbig hbad hgood; rw [← hNO] at lo lo' hbig hbad hgood; rw [← hNS] at ls ls'
  have H := Lib.hid h; have HNT := Lib.hid hNT; have HNO := Lib.hid hNO; have HNS := Lib.hid hNS
  clear h hr hNT hNO hNS
  by_cases h1 : 8 < NT
  · have hr4 := hbig (.inl h1)
    clear hbig hbad hgood
    subst hr4
    go_enter Try.func120, Try.ntmps120
    go_wp2
    go_ret
    exact ⟨rfl, B.alloc B.size _⟩
  by_cases h2 : 960 < NO
  · have hr4 := hbig (.inr h2)
    clear hbig hbad hgood
    subst hr4
    go_enter Try.func120, Try.ntmps120
    go_wp2
    go_ret
    exact ⟨rfl, B.alloc B.size _⟩
  have hnm : ¬ (8 < NT ∨ 960 < NO) := by omega
  have HBAD := Lib.hid (hbad hnm); have HGOOD := Lib.hid (hgood hnm)
  clear hbig hbad hgood hnm
  by_cases h3 : NS = 16
  · have h3' : ((NS : Int) != 16) = false := by rw [bne_eq_false_iff_eq]; omega
    have HS3 := Lib.hid h3; clear h3
    go_enter Try.func120, Try.ntmps120
    go_upto_region 1 with (fail)
    refine wp_gen (fun Wv => Bx Wv (w.heap.size) (87) (#[tv, ov, sv]) ∧ Below w.heap.size w Wv) ⟨((Bx.at_ (by simp))), ((Below.refl _ w).alloc (by simp <;> omega) _)⟩ ?_
    rintro wa1 ⟨g1, b⟩
    replace B := B.trans (b.mono B.size); clear b
    have c_g1 := g1.cell; have f_g1 := g1.free; have a_g1 := fun o => (g1.alloc o).cell; have d_g1 := fun o o2 => ((g1.alloc o).alloc o2).cell; have e_g1 := fun o => (g1.alloc o).free
    have HB := Lib.hid B; clear B
    go_wp2
    have HG1 := Lib.hid g1
    clear g1 c_g1 f_g1 a_g1 d_g1 e_g1
    go_loopg [26] NT (fun g i wr => ∃ j : Nat, j ≤ NT ∧ g = NT - j ∧ i = .int .i64 j ∧ Hid ((∀ (i : Nat) t, i < j → m.types[i]? = some t → kErr t = 0) ∧ Bx wr w.heap.size 87 #[tv, ov, sv] ∧ Below w.heap.size w wr))
    case atStart => exact ⟨0, by omega, by omega, rfl, Lib.hid ⟨fun i t hi => by omega, HG1.out, HB.out⟩⟩
    case round =>
      clear HG1 HB
      obtain ⟨j, hj, rfl, rfl, hh⟩ := hrel
      by_cases hlt : j < NT
      · obtain ⟨ad, y, t, iy, m0, ht, hby⟩ := (H.out.t.below hh.out.2.2).at_ (k := j) (by have := HNT.out; omega)
        by_cases hk : kErr t = 0
        · have KT := Lib.hid (fun w h => KCheck_any y t 0 hk.symm w h)
          have HK := Lib.hid hk; clear hk
          go_wp2_with fail
          refine (KT.out _ hby.out).mono ?_
          rintro e w2 ⟨rfl, rfl⟩
          go_wp2
          go_roundg (NT - (j + 1))
          case measure => omega
          case rel =>
            refine ⟨j + 1, by omega, rfl, by go_num, Lib.hid ⟨fun i u hi hu => ?_, hh.out.2⟩⟩
            by_cases hij : i < j
            · exact hh.out.1 i u hij hu
            · obtain rfl : i = j := by omega
              have := ht.out; rw [hu] at this; injection this with this; subst this; exact HK.out
        · have hr8 := HBAD.out (no_type ht.out hk)
          subst hr8
          obtain ⟨z, hz⟩ : ∃ z, z = kErr t := ⟨_, rfl⟩
          have KT := Lib.hid (fun w h => KCheck_any y t z hz w h)
          have hne : (z != 0) = true := by rw [bne_iff_ne, hz]; exact hk
          clear hk hz
          go_wp2_with fail
          refine (KT.out _ hby.out).mono ?_
          rintro e w2 ⟨rfl, rfl⟩
          go_wp2
          go_ret
          exact ⟨rfl, hh.out.2.2⟩
      · obtain rfl : j = NT := by omega
        have HT := Lib.hid (fun i t hi => hh.out.1 i t hi); have g1 := hh.out.2.1; have HB := Lib.hid hh.out.2.2
        clear hh
        have c_g1 := g1.cell
        go_wp2
        have HG1 := Lib.hid g1
        clear g1 c_g1
        go_loopg [37] NO (fun g i wr => ∃ k : Nat, k ≤ NO ∧ g = NO - k ∧ i = .int .i64 k ∧ Hid ((∀ (i : Nat) o, i < k → m.objs[i]? = some o → ObOk m.types m.objs.length o) ∧ Bx wr w.heap.size 87 #[tv, ov, sv] ∧ Below w.heap.size w wr))
        case atStart => exact ⟨0, by omega, by omega, rfl, Lib.hid ⟨fun i t hi => by omega, HG1.out, HB.out⟩⟩
        case round =>
          clear HG1 HB
          obtain ⟨k, hk, rfl, rfl, hh⟩ := hrel
          by_cases hltk : k < NO
          · obtain ⟨ob, oq, x, o, ix, m0, m1, ho, hx, hob⟩ := (H.out.o.below hh.out.2.2).at_ (k := k) (by have := HNO.out; omega)
            obtain ⟨z, hz⟩ : ∃ z, z = decide (ObOk m.types m.objs.length o) := ⟨_, rfl⟩
            have OT := Lib.hid (fun w h hx => object_any tv ov sv x m o z hz w h hx)
            have HZ := Lib.hid hz; clear hz
            have g1 := hh.out.2.1; have B := hh.out.2.2; have HA := Lib.hid hh.out.1
            have hxx := hx.out
            obtain ⟨xA, xn, xc, rfl⟩ : ∃ A n c, x = .slice A n c := by obtain ⟨A, c, e, _⟩ := hx.out; exact ⟨A, _, c, e⟩
            clear hx
            have H1 := Lib.hid (H.out.below B)
            have c_g1 := g1.cell
            go_upto_region 14 with (fail)
            refine wp_gen (fun Wv => Bx Wv (wr.heap.size) (140) (#[.int .i64 o.ty, .slice xA xn xc]) ∧ Below wr.heap.size wr Wv) ⟨((Bx.at_ (by simp))), ((Below.refl _ wr).alloc (by simp <;> omega) _)⟩ ?_
            rintro wa1 ⟨g2, b⟩
            try clear c_g1 f_g1 a_g1 d_g1 e_g1
            replace g1 := g1.below b; have c_g1 := g1.cell; have f_g1 := g1.free; have a_g1 := fun o => (g1.alloc o).cell; have d_g1 := fun o o2 => ((g1.alloc o).alloc o2).cell; have e_g1 := fun o => (g1.alloc o).free; replace hxx := hxx.below b; replace B := B.trans (b.mono B.size); clear b
            have c_g2 := g2.cell; have f_g2 := g2.free; have a_g2 := fun o => (g2.alloc o).cell; have d_g2 := fun o o2 => ((g2.alloc o).alloc o2).cell; have e_g2 := fun o => (g2.alloc o).free
            go_wp2_with fail
            refine (OT.out _ (H.out.below B) hxx).mono ?_
            rintro e w2 ⟨rfl, b2⟩
            replace B := B.trans (b2.mono B.size)
            cases z
            · have hbad := HBAD.out (no_obj ho.out (by have := HZ.out; rw [eq_comm, decide_eq_false_iff_not] at this; exact this))
              subst hbad
              clear b2
              go_wp2
              go_ret
              exact ⟨rfl, B⟩
            · have HH := Lib.hid (And.intro (g1.below b2) B)
              clear b2 g1 g2 c_g1 c_g2 f_g1 f_g2 a_g1 a_g2 d_g1 d_g2 e_g1 e_g2 B m0 m1
              go_wp2
              go_roundg (NO - (k + 1))
              case measure => omega
              case rel =>
                refine ⟨k + 1, by omega, rfl, by go_num, Lib.hid ⟨fun i u hi hu => ?_, HH.out⟩⟩
                by_cases hik : i < k
                · exact HA.out i u hik hu
                · obtain rfl : i = k := by omega
                  have := ho.out; rw [hu] at this; injection this with this; subst this
                  have := HZ.out; rw [eq_comm, decide_eq_true_iff] at this; exact this
          · obtain rfl : k = NO := by omega
            have HO := Lib.hid (fun i t hi => hh.out.1 i t hi); have g1 := hh.out.2.1; have HB := Lib.hid hh.out.2.2
            clear hh
            have c_g1 := g1.cell
            go_wp2
            have HG1 := Lib.hid g1
            clear g1 c_g1
            go_loopg [49] 16 (fun g i wr => ∃ q : Nat, q ≤ 16 ∧ g = 16 - q ∧ i = .int .i64 q ∧ Hid ((∀ (i : Nat) o, i < q → m.slots[i]? = some o → SlOk m.objs.length o) ∧ Bx wr w.heap.size 87 #[tv, ov, sv] ∧ Below w.heap.size w wr))
            case atStart => exact ⟨0, by omega, by omega, rfl, Lib.hid ⟨fun i t hi => by omega, HG1.out, HB.out⟩⟩
            case round =>
              clear HG1 HB
              obtain ⟨q, hq, rfl, rfl, hh⟩ := hrel
              by_cases hltq : q < 16
              · have hqn : q < NS := by have := HS3.out; omega
                obtain ⟨sb, sq, s, ix, m0, m1, m2, hs⟩ := (H.out.s.below hh.out.2.2).at_ (P := Try.prog) Try.underlying50 size_slot (k := q) (by have := HNS.out; omega)
                obtain ⟨z, hz⟩ : ∃ z, z = decide (SlOk m.objs.length s) := ⟨_, rfl⟩
                have ST := Lib.hid (fun w h => slot_any tv ov sv m s z hz w h)
                have HZ := Lib.hid hz; clear hz
                have g1 := hh.out.2.1; have B := hh.out.2.2; have HA := Lib.hid hh.out.1
                have c_g1 := g1.cell
                go_upto_region 20 with (fail)
                refine wp_gen (fun Wv => Bx Wv (wr.heap.size) (55) (#[.int .i64 s.gen, .bool s.used, .int .i64 s.at_]) ∧ Below wr.heap.size wr Wv) ⟨((Bx.at_ (by simp))), ((Below.refl _ wr).alloc (by simp <;> omega) _)⟩ ?_
                rintro wa1 ⟨g2, b⟩
                try clear c_g1 f_g1 a_g1 d_g1 e_g1
                replace g1 := g1.below b; have c_g1 := g1.cell; have f_g1 := g1.free; have a_g1 := fun o => (g1.alloc o).cell; have d_g1 := fun o o2 => ((g1.alloc o).alloc o2).cell; have e_g1 := fun o => (g1.alloc o).free; replace B := B.trans (b.mono B.size); clear b
                have c_g2 := g2.cell; have f_g2 := g2.free; have a_g2 := fun o => (g2.alloc o).cell; have d_g2 := fun o o2 => ((g2.alloc o).alloc o2).cell; have e_g2 := fun o => (g2.alloc o).free
                go_wp2_with fail
                refine (ST.out _ (H.out.below B)).mono ?_
                rintro e w2 ⟨rfl, b2⟩
                replace B := B.trans (b2.mono B.size)
                cases z
                · have hbad := HBAD.out (no_slot hs.out (by have := HZ.out; rw [eq_comm, decide_eq_false_iff_not] at this; exact this))
                  subst hbad
                  clear b2
                  go_wp2
                  go_ret
                  exact ⟨rfl, B⟩
                · have HH := Lib.hid (And.intro (g1.below b2) B)
                  clear b2 g1 g2 c_g1 c_g2 f_g1 f_g2 a_g1 a_g2 d_g1 d_g2 e_g1 e_g2 B m0 m1 m2
                  go_wp2
                  go_roundg (16 - (q + 1))
                  case measure => omega
                  case rel =>
                    refine ⟨q + 1, by omega, rfl, by go_num, Lib.hid ⟨fun i u hi hu => ?_, HH.out⟩⟩
                    by_cases hik : i < q
                    · exact HA.out i u hik hu
                    · obtain rfl : i = q := by omega
                      have := hs.out; rw [hu] at this; injection this with this; subst this
                      have := HZ.out; rw [eq_comm, decide_eq_true_iff] at this; exact this
              · obtain rfl : q = 16 := by omega
                have hmo : MoOk m := by
                  refine ⟨by rw [← HNS.out]; exact HS3.out, fun t ht => ?_, fun o ho => ?_, fun s hs => ?_⟩
                  · obtain ⟨i, hi, hit⟩ := List.getElem_of_mem ht
                    exact HT.out i t (by rw [HNT.out]; exact hi) (by rw [List.getElem?_eq_getElem hi, hit])
                  · obtain ⟨i, hi, hit⟩ := List.getElem_of_mem ho
                    exact HO.out i o (by rw [HNO.out]; exact hi) (by rw [List.getElem?_eq_getElem hi, hit])
                  · obtain ⟨i, hi, hit⟩ := List.getElem_of_mem hs
                    exact hh.out.1 i s (by have := HNS.out; have := HS3.out; omega) (by rw [List.getElem?_eq_getElem hi, hit])
                have hr0 := HGOOD.out hmo
                subst hr0
                have hns : ¬ (16 : Int) < NS := by have := HS3.out; omega
                have hns' : decide ((16 : Int) < NS) = false := decide_eq_false hns
                obtain rfl := HS3.out
                go_wp2
                go_ret
                exact ⟨rfl, hh.out.2.2⟩
  · have hr8 := HBAD.out (fun hm => h3 (by rw [HNS.out]; exact hm.1))
    subst hr8
    have h3' : ((NS : Int) != 16) = true := by rw [bne_iff_ne]; omega
    clear h3
    go_enter Try.func120, Try.ntmps120
    go_wp2
    go_ret
    exact ⟨rfl, B.alloc B.size _⟩
end Go.Proofs.Ytiiilaojllmmiaa
namespace Go.Proofs.Ytiiilaojllmmiaa
open Go.RowKit L02 L13 L18 L20
end Go.Proofs.Ytiiilaojllmmiaa
namespace Go.Proofs.Ytiiilaojllmmiaa
open Go.RowKit L02 L13 L18 L20
end Go.Proofs.Ytiiilaojllmmiaa
