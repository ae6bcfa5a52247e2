/- Contracts of the functions that the laws 'R' reach, part 12. No condition. -/
import Derived.Test.YtodbbacmdjcheaaMRk
set_option linter.unusedVariables false
set_option linter.unusedSimpArgs false
namespace Go.Proofs.Ytodbbacmdjcheaa
open Go.RowKit Go.Maps L02 L13 L18 L20
/-- .. that has just n entries, those whose keys K tells -/
def MapN (P : Program) (k e : TypeId) (z0 : Lit) (W : World) (g n : Nat) (f : Int → Lit) (K : Int → Bool) : Prop :=
  ∃ D : DataW Unit, W.ownsMap P k (plainElem P e) g n D ∧ (∀ a, D.atKey (.int .i64 a) (.lit z0) = .lit (f a)) ∧ size D = n ∧ ∀ a, has D (.int .i64 a) = K a
section
variable {P : Program} {k e : TypeId} {z0 : Lit} {W : World} {g n : Nat} {f : Int → Lit} {K : Int → Bool}
theorem MapN.mapL (h : MapN P k e z0 W g n f K) : MapL P k e z0 W g n f := by obtain ⟨D, h1, h2, _⟩ := h; exact ⟨D, h1, h2⟩
theorem MapN.made (W : World) : MapN P k e z0 (W.alloc (.map #[] 0)) W.heap.size 0 (fun _ => z0) (fun _ => false) :=
  ⟨.map [], World.ownsMap_made W P k _, fun a => rfl, rfl, fun a => rfl⟩
theorem MapN.kept {W' : World} {row : Option Nat} (h : MapN P k e z0 W g n f K) (hg : W.grownBy W' row) (hne : some g ≠ row) : MapN P k e z0 W' g n f K := by
  obtain ⟨D, h1, h2⟩ := h; exact ⟨D, h1.kept hg hne, h2⟩
theorem MapN.below {W' : World} (h : MapN P k e z0 W g n f K) (hb : Below W.heap.size W W') : MapN P k e z0 W' g n f K := by
  obtain ⟨D, ⟨es, clock, hh, F, hs, hD⟩, h2⟩ := h
  exact ⟨D, ⟨es, clock, (hb.block g (Array.getElem?_eq_some_iff.1 hh).1).trans hh, F, hs, hD⟩, h2⟩
theorem MapL.block (h : MapL P k e z0 W g n f) : ∃ es clock, W.heap[g]? = some (.map es clock) := by
  obtain ⟨D, ⟨es, clock, hh, _⟩, _⟩ := h; exact ⟨es, clock, hh⟩
theorem MapN.len {t : TypeId} (h : MapN P k e z0 W g n f K) (ht : P.underlying t = some (.map k e)) : ∀ ty, (Builtin.len_ #[t] ty #[.map (some g)]).run P W = .ok (.int .i64 (n : Int)) W := by
  obtain ⟨D, h1, _, h3, _⟩ := h
  intro ty
  rw [h1.len ht ty, h3]
theorem MapN.put {t : TypeId} (h : MapN P k e z0 W g n f K) (hk : P.underlying k = some (.int .i64)) (ht : P.underlying t = some (.map k e)) (hn : n < maxLen) {a : Int} (ha : i64Ok a) (hK : K a = false) {v : Value} {l : Lit} (hv : plainElem (H := Unit) P e v = some (.lit l, [])) :
    ∃ W', (Instr.mapUpdate t (.map (some g)) (.int .i64 a) v).run P W = .ok () W' ∧ MapN P k e z0 W' g (n + 1) (fun b => if b = a then l else f b) (fun b => decide (b = a) || K b) ∧ W.grownBy W' (some g) := by
  obtain ⟨D, h1, h2, h3, h4⟩ := h
  obtain ⟨W', r1, r2, r3⟩ := h1.update (int_keyed hk) ht hn (keyOf_int_mk hk (lit_wf ha)) hv
  refine ⟨W', r1, ⟨_, r2, fun b => ?_, ?_, fun b => ?_⟩, r3⟩
  · by_cases hb : b = a
    · subst hb
      show _ = DataW.lit (if b = b then l else f b)
      rw [if_pos rfl]
      exact atKey_put_same (h1.isMap) ((int_keyed hk).key (keyOf_int_mk hk (lit_wf ha))) _ _
    · show _ = DataW.lit (if b = a then l else f b)
      rw [if_neg hb, atKey_put_other (by intro e; injection e with _ e; exact hb e), h2]
  · rw [size_put (h1.tidy (int_keyed hk)), h4, hK, h3]; rfl
  · by_cases hb : b = a
    · subst hb
      rw [has_put_same h1.isMap ((int_keyed hk).key (keyOf_int_mk hk (lit_wf ha)))]; simp
    · rw [has_put_other (by intro e; injection e with _ e; exact hb e), h4]; simp [hb]
/-- a store at the operation, for the walk -/
theorem wpList_mapPutN {ops : Array Oper} {rest : List Oper} {o : Oper} {a : Act} {Q : Exit → Act → World → Prop} (hg : o.guard = none) {m x v : Operand} {t : TypeId} (hop : o.op = Op.mapUpdate t m x v) (hk : P.underlying k = some (.int .i64)) (ht : P.underlying t = some (.map k e))
    (hm : a.eval m = .map (some g)) {key : Int} {val : Value} {l : Lit} (hx : a.eval x = .int .i64 key) (hv : a.eval v = val) (h : MapN P k e z0 W g n f K) (hn : n < maxLen) (hkey : i64Ok key) (hK : K key = false) (hval : plainElem (H := Unit) P e val = some (.lit l, []))
    (hC : ∀ W', MapN P k e z0 W' g (n + 1) (fun b => if b = key then l else f b) (fun b => decide (b = key) || K b) → W.grownBy W' (some g) → wpList P ops Q rest (a.put o.dst undef) W') : wpList P ops Q (o :: rest) a W := by
  refine wpList_plain hg fun K' hK' => ?_
  obtain ⟨W', hrun, r1, r2⟩ := h.put hk ht hn hkey hK hval
  unfold Oper.wp
  simp [execOp, hop, hm, hx, hv, hrun, Result.andThen]
  exact hK' _ _ (hC W' r1 r2)
/-- a row does not lie in a map's block -/
theorem own_ne_map {B e' sz n' : Nat} {v : Value} {xs : List Value} {es : Array MapEntry} {clock : Nat} (h : W.ownsRow B e' sz v n' xs) (hm : W.heap[g]? = some (.map es clock)) : v.ownBlock = none ∨ v.ownBlock ≠ some g := by
  rcases h.2 with ⟨rfl, _⟩ | ⟨g', cap, cur, rfl, _, hg', _⟩
  · exact .inl rfl
  · refine .inr ?_
    intro he
    simp [Value.ownBlock] at he
    subst he
    rw [hg'] at hm
    injection hm with hm
    cases hm
theorem Bx.ne_map {p : Nat} {t : TypeId} {cs : Array Value} {es : Array MapEntry} {clock : Nat} (h : Bx W p t cs) (hm : W.heap[g]? = some (.map es clock)) : g ≠ p := by
  rintro rfl
  unfold Bx at h
  rw [h] at hm
  injection hm with hm
  cases hm
theorem row_keptM {W' : World} {B e' sz n' : Nat} {v : Value} {xs : List Value} {es : Array MapEntry} {clock : Nat} (h : W.ownsRow B e' sz v n' xs) (hm : W.heap[g]? = some (.map es clock)) (hg : W.grownBy W' (some g)) : W'.ownsRow B e' sz v n' xs :=
  World.ownsRow.kept h hg (own_ne_map h hm)
theorem OwnT.keptM {W' : World} {B : Nat} {v : Value} {L : List (List UInt8)} {es : Array MapEntry} {clock : Nat} (h : OwnT W B v L) (hm : W.heap[g]? = some (.map es clock)) (hg : W.grownBy W' (some g)) : OwnT W' B v L := by
  obtain ⟨vs, a1, a2, a4⟩ := h
  exact ⟨vs, a1, row_keptM a2 hm hg, fun i x l h5 h6 => row_keptM (a4 i x l h5 h6) hm hg⟩
theorem Bx.keptM {W' : World} {p : Nat} {t : TypeId} {cs : Array Value} {es : Array MapEntry} {clock : Nat} (h : Bx W p t cs) (hm : W.heap[g]? = some (.map es clock)) (hg : W.grownBy W' (some g)) : Bx W' p t cs :=
  h.grown hg (.inr (fun e => h.ne_map hm (by injection e)))
end
end Go.Proofs.Ytodbbacmdjcheaa
namespace Go.Proofs.Ytodbbacmdjcheaa
open Go.RowKit L01 L02 L05 L06 L07 L13 L14 L15 L16 L18 L19
/-- the heap is one free extent -/
def whole (L : List Hb) : Bool := match L with | [b] => decide (b.kind = 2) | _ => false
def emp (l : List UInt64) : Bool := if chk19 l = 0 then whole (allL l) && !anyU (slots l) else false
theorem whole_one {l : List UInt64} (h : allErr l = 0) {f : Hb} (hF : freeL l = [f]) : (decide (f.at_ = 128) && decide (f.size = (l.length : Int) - 128)) = whole (allL l) := by
  have hu := fun b hb c hc => (all_apart h (a := b) (b := c) hb hc)
  obtain ⟨hseg, _⟩ := seg_of_all h
  unfold freeL at hF
  obtain ⟨L, hL⟩ : ∃ L, L = allL l := ⟨_, rfl⟩
  rw [← hL] at hF hseg hu ⊢
  have hfm : f ∈ free L := by rw [hF]; simp
  obtain ⟨hf, hk⟩ := free_mem.1 hfm
  match L, hF, hseg, hu, hf with
  | [b], hF, hseg, _, hf =>
    rw [List.mem_singleton] at hf; subst hf
    obtain ⟨h1, h2, _⟩ := hseg.one
    rw [decide_eq_true (show f.at_ = 128 by omega), decide_eq_true (show f.size = (l.length : Int) - 128 by omega)]
    show true = decide (f.kind = 2)
    rw [decide_eq_true hk]
  | b :: c :: L, hF, hseg, hu, hf =>
    have hw : whole (b :: c :: L) = false := rfl
    rw [hw, Bool.and_eq_false_iff, decide_eq_false_iff_not, decide_eq_false_iff_not]
    by_cases h1 : f.at_ = 128
    · right
      intro h2
      obtain ⟨b1, b2, _, _, b3, b4⟩ := hseg.head
      have hbb := b2.bounds
      have hfb : f = b := by
        rcases hu f hf b List.mem_cons_self with e | e | e
        · exact e
        · have := (hseg.bound hf).2.2; omega
        · omega
      subst hfb
      obtain ⟨c1, c2, _, _, c3, c4⟩ := b4.head
      have := b4.le
      have := c2.bounds
      have := c4.le
      omega
    · exact .inl h1
theorem whole_not {l : List UInt64} (hF : (freeL l).length ≠ 1) : whole (allL l) = false := by
  unfold freeL at hF
  unfold whole
  split
  · rename_i b e
    rw [e] at hF
    rw [decide_eq_false_iff_not]
    intro hk
    apply hF
    unfold free
    rw [List.filter_cons_of_pos (by simpa using hk)]; rfl
  · rfl
set_option maxRecDepth 100000 in
set_option maxHeartbeats 1000000 in
theorem Empty36_any (v : Value) (l : List UInt64) (b : Bool) (r : Int) (hb : b = emp l) (hr : r = chk19 l) (w : World) (h : Words w v l) :
    Calls Try.prog 19 #[v] w fun e w' => e = .returned (.tuple #[.bool b, .int .i64 r]) ∧ Below w.heap.size w w' := by
  have B : Below w.heap.size w w := Below.refl _ _
  have H := Lib.hid h
  have CK := Lib.hid (fun w h => Check19_any v l r hr w h)
  by_cases h0 : r = 0
  case neg =>
    have hb0 : b = false := by rw [hb, emp, if_neg (by rw [← hr]; exact h0)]
    subst hb0
    have n1 : (r != 0) = true := by rw [bne_iff_ne]; exact h0
    clear hb hr h h0
    go_enter Try.func19, Try.ntmps19
    go_wp2_with fail
    refine (CK.out _ (H.out.below B)).mono ?_
    rintro e wa1 ⟨rfl, b⟩
    replace B := B.trans (b.mono B.size); clear b
    go_wp2
    go_ret2
    exact ⟨rfl, B⟩
  case pos =>
    subst h0
    have rt : Rt l := Rt.of hr.symm
    have hl2 := rt.sz.2.1
    obtain ⟨F, hF⟩ : ∃ F, F = freeL l := ⟨_, rfl⟩
    obtain ⟨S, hS⟩ : ∃ S, S = slots l := ⟨_, rfl⟩
    have hS16 : S.length = 16 := by rw [hS]; exact slots_len' rt.sl
    have FT := Lib.hid (fun w h => FreeW_any v l F 0 hF rt.al.symm w h)
    have AT := Lib.hid (fun w h => All18_any v l S 0 (by rw [hS, all, if_pos rt.sl]) rt.sl.symm w h)
    obtain ⟨c, hc⟩ : ∃ c, c = anyU S := ⟨_, rfl⟩
    have AU := Lib.hid (fun x w (h : Slots w x S) => anyFun_any x S c hc w h (by omega))
    obtain ⟨N, hN⟩ : ∃ N, N = l.length := ⟨_, rfl⟩
    have lw := Rd.len h Try.underlying25
    rw [← hN] at lw
    have hwN : IntKind.i64.wrap ((N : Int) - 128) = (N : Int) - 128 := IntWalk.i64_in _ (by omega)
    have hbe : b = (whole (allL l) && !c) := by rw [hb, emp, if_pos hr.symm, hc, hS]
    by_cases h1 : F.length = 1
    case neg =>
      have hb0 : b = false := by rw [hbe, whole_not (by rw [← hF]; exact h1)]; rfl
      subst hb0
      have n1 : ((F.length : Int) == 1) = false := by rw [beq_eq_false_iff_ne]; omega
      obtain ⟨M, hM⟩ : ∃ M, M = F.length := ⟨_, rfl⟩
      rw [← hM] at n1
      have HM := Lib.hid hM
      clear hb hr h rt hl2 hF hS hS16 hc hN hbe h1 hM
      go_enter Try.func19, Try.ntmps19
      go_wp2_with fail
      refine (CK.out _ (H.out.below B)).mono ?_
      rintro e wa1 ⟨rfl, b⟩
      replace B := B.trans (b.mono B.size); clear b
      go_wp2_with fail
      refine (FT.out _ (H.out.below B)).mono ?_
      rintro e wa2 ⟨xf, rfl, of, b⟩
      replace B := B.trans (b.mono B.size); clear b
      go_wp2_with fail
      refine (AT.out _ (H.out.below B)).mono ?_
      rintro e wa3 ⟨xs, E, rfl, os, b⟩
      replace of := of.below b; replace B := B.trans (b.mono B.size); clear b
      have lf := of.rd.len
      rw [← HM.out] at lf
      go_wp2
      go_ret2
      exact ⟨rfl, B⟩
    case pos =>
      obtain ⟨f, hf⟩ := List.length_eq_one_iff.1 h1
      subst hf
      have hwo := whole_one rt.al hF.symm
      obtain ⟨p1, hp1⟩ : ∃ p, p = decide (f.at_ = 128) := ⟨_, rfl⟩
      obtain ⟨p2, hp2⟩ : ∃ p, p = decide (f.size = (l.length : Int) - 128) := ⟨_, rfl⟩
      rw [← hp1, ← hp2] at hwo
      have q1 : (f.at_ == 128) = p1 := by rw [hp1, Bool.eq_iff_iff, beq_iff_eq, decide_eq_true_iff]
      have q2 : (f.size == (N : Int) - 128) = p2 := by rw [hp2, ← hN, Bool.eq_iff_iff, beq_iff_eq, decide_eq_true_iff]
      rw [← hwo] at hbe
      have HBE := Lib.hid hbe
      clear hb hr h rt hl2 hF hS hS16 hc hN hbe h1 hp1 hp2 hwo
      go_enter Try.func19, Try.ntmps19
      go_wp2_with fail
      refine (CK.out _ (H.out.below B)).mono ?_
      rintro e wa1 ⟨rfl, b⟩
      replace B := B.trans (b.mono B.size); clear b
      go_wp2_with fail
      refine (FT.out _ (H.out.below B)).mono ?_
      rintro e wa2 ⟨xf, rfl, of, b⟩
      replace B := B.trans (b.mono B.size); clear b
      go_wp2_with fail
      refine (AT.out _ (H.out.below B)).mono ?_
      rintro e wa3 ⟨xs, E, rfl, os, b⟩
      replace of := of.below b; replace B := B.trans (b.mono B.size); clear b
      have lf := of.rd.len
      obtain ⟨bb, oo, f', ia, m0, m1, m2, m3, m4, m5, hf', _⟩ := of.rd.at_ (k := 0) (by simp)
      obtain rfl : f' = f := by have := hf'.out; simp at this; exact this.symm
      have ia0 : ∀ W, (Instr.indexAt 92 xf (.int .i64 0)).run Try.prog W = .ok (.pointer (some ⟨bb, oo, none⟩)) W := ia
      have HOS := Lib.hid os.rd
      clear ia of os hf'
      have lf1 : ∀ ty W, (Builtin.len_ #[92] ty #[xf]).run Try.prog W = .ok (.int .i64 1) W := lf
      clear lf
      cases p1 <;> cases p2
      all_goals try
        go_wp2
        go_ret2
        exact ⟨by rw [HBE.out]; rfl, B⟩
      · go_wp2_with fail
        refine (AU.out _ _ HOS.out).mono ?_
        rintro e w2 ⟨rfl, b2⟩
        replace B := B.trans (b2.mono B.size)
        go_wp2
        go_ret2
        refine ⟨?_, B⟩
        rw [HBE.out]; simp
end Go.Proofs.Ytodbbacmdjcheaa
namespace Go.Proofs.Ytodbbacmdjcheaa
open Go Go.RowKit
section
variable {P : Program} {ops : Array Oper} {w : World}
theorem wpStill_of_quiet {Q : Act → Prop} : ∀ (l : List Oper) (a : Act), wpQuiet P ops (fun W => W = w) Q l a → wpStill P ops w Q l a
  | [], a, h => h
  | o :: l, a, h => by
    unfold wpQuiet at h
    unfold wpStill
    by_cases hw : Region.wanted o (yielded ops a.tmps) = true
    · rw [if_pos hw] at h ⊢
      obtain ⟨v, h1, h2⟩ := h
      have h3 := h1 w rfl
      have h4 := wpStill_of_quiet l _ h2
      unfold Oper.quietAt at h3
      unfold Oper.still
      cases hr : (execOp a.eval o).run P w with
      | ok n w' =>
        rw [hr] at h3
        cases n with
        | value u => obtain ⟨e1, e2⟩ := h3; subst e2; exact ⟨e1, h4⟩
        | skip => obtain ⟨e1, e2⟩ := h3; subst e2; exact ⟨e1, h4⟩
        | enter f args => obtain ⟨e1, e2⟩ := h3; exact ⟨e1, v, e2, h4⟩
        | _ => exact absurd h3 id
      | halt x w' => rw [hr] at h3; exact absurd h3 id
    · rw [if_neg hw] at h ⊢
      exact wpStill_of_quiet l _ h
theorem wp_region_qtail {id : Nat} {Q : Exit → Act → World → Prop} {a : Act} {l : List Oper} (n : Nat) (hm : P.follows .mixedOrders = true) (hB : Region.lexTailB .any l.toArray n = true)
    (h : wpQuiet P l.toArray (fun W => W = w.drew) (fun a' => wpList P l.toArray Q (l.drop n) a' w.drew) (l.take n) a) : (Code.region id l.toArray true).wp P Q a w :=
  wp_region_still_tail n hm hB (wpStill_of_quiet _ _ h)
end
end Go.Proofs.Ytodbbacmdjcheaa
namespace Go.Proofs.Ytodbbacmdjcheaa
open Go.RowKit L01 L02 L05 L06 L07 L13 L14 L15 L18 L19 L20
theorem refV_idxI {O : List Hb} {v : UInt64} (h : O.length ≤ 960) : ((refV O v).toNat : Int) = idxI O v.toNat + 1 := by
  unfold refV idxI
  cases h2 : idx O v.toNat with
  | none => simp
  | some i =>
    obtain ⟨b, h3, _⟩ := idx_some h2
    have := (List.getElem?_eq_some_iff.1 h3).1
    show ((UInt64.ofNat (i + 1)).toNat : Int) = (i : Int) + 1
    rw [UInt64.toNat_ofNat', Nat.mod_eq_of_lt (by omega)]; omega
theorem slOf_used {O : List Hb} {s : Sl} (h : s.used = true) : slOf O s = ⟨s.gen, true, idxI O s.at_⟩ := by
  unfold slOf; rw [if_pos h]; rfl
theorem slOf_not {O : List Hb} {s : Sl} (h : s.used = false) : slOf O s = s := by unfold slOf; rw [h]; rfl
theorem form_T {w : World} {B : Nat} {v : Value} {L : List (List UInt8)} (h : OwnT w B v L) : ∃ A n c, v = .slice A n c := by
  obtain ⟨vs, _, h2, _⟩ := h
  obtain ⟨A, c, e⟩ := own_form' h2
  exact ⟨A, _, c, e⟩
end Go.Proofs.Ytodbbacmdjcheaa
namespace Go.Proofs.Ytodbbacmdjcheaa
open Go.RowKit L01 L02 L05 L06 L07 L13 L14 L15 L18 L19 L20
theorem All18_own (v : Value) (l : List UInt64) (L : List Sl) (hL : L = slots l) (h0 : openErr l = 0) (w : World) (h : Words w v l) :
    Calls Try.prog 39 #[v] w fun e w' => ∃ x, e = .returned (.tuple #[x, .int .i64 0]) ∧ OwnS w' w.heap.size 146 x L ∧ Below w.heap.size w w' := by
  have B : Below w.heap.size w w := Below.refl _ _
  obtain ⟨V, hV⟩ : ∃ V, V = tab (tabOf l) := ⟨_, rfl⟩
  have HOT := Lib.hid (fun w h => open_any v l V hV 0 h0.symm w h); have H := Lib.hid h; clear h
  have hVs : V.size = 48 := by rw [hV]; exact tabOf_size l
  have hV1 : V.all (·.oneCell') = true := by rw [hV]; exact tab_one _
  have hVL : V = tab L := by rw [hV, tabOf_ok h0, hL]
  have hL16 : L.length = 16 := by rw [hL]; exact slots16 h0
  have HVs := Lib.hid hVs; have HV1 := Lib.hid hV1; have HVL := Lib.hid hVL; have HL16 := Lib.hid hL16
  clear h0 hVs hV1 hVL hL16 hV hL
  go_enter Try.func39, Try.ntmps39
  go_wp2_with fail
  refine (HOT.out _ (H.out.below B)).mono ?_
  rintro e w' ⟨rfl, b⟩
  replace B := B.trans (b.mono B.size); clear b
  go_wp2_with ((with_reducible refine at_store 146 4 9 ?_); refine wpList_storeNew rfl _ _ _ rfl rfl V rfl rfl (by rw [HVs.out]; exact size_table) (by rw [HVs.out]; rfl) HV1.out ?_; intro W q1 b1)
  go_ret2
  exact ⟨_, rfl, q1.ownS B.size HVL.out HL16.out, B.trans (b1.mono B.size)⟩
/-- one more object at the end of a model's objects: all else is kept -/
structure PushO (wr W' w : World) (B0 p : Nat) (v xt ys : Value) (L : List Ob) (o : Ob) : Prop where
  own : OwnO W' B0 v (L ++ [o])
  md : Bx W' p 50 #[xt, v, ys]
  below : Below B0 w W'
  row : ∀ {B e sz n : Nat} {x : Value} {xs : List Value}, wr.ownsRow B e sz x n xs → e ≠ 109 → e ≠ 50 → W'.ownsRow B e sz x n xs
  bx : ∀ {q : Nat} {t : TypeId} {cs : Array Value}, Bx wr q t cs → q ≠ p → 109 ≠ t → Bx W' q t cs
  map : ∀ {k e : TypeId} {z0 : Lit} {g n : Nat} {f : Int → Lit} {K : Int → Bool}, MapN Try.prog k e z0 wr g n f K → MapN Try.prog k e z0 W' g n f K
theorem PushO.t {wr W' w : World} {B0 p : Nat} {v xt ys : Value} {L : List Ob} {o : Ob} (h : PushO wr W' w B0 p v xt ys L o) {B : Nat} {x : Value} {T : List (List UInt8)} (hT : OwnT wr B x T) : OwnT W' B x T := by
  obtain ⟨vs, a1, a2, a4⟩ := hT
  exact ⟨vs, a1, h.row a2 (by decide) (by decide), fun i x l h5 h6 => h.row (a4 i x l h5 h6) (by decide) (by decide)⟩
theorem pushO {w wr W1 W3 : World} {B0 p n : Nat} {ot y v xt ys : Value} {vs : List Value} {L : List Ob} {o : Ob}
    (z1 : vs.length = L.length) (z2 : wr.ownsRow B0 109 2 ot L.length (obC L vs)) (z4 : ∀ (i : Nat) x l, vs[i]? = some x → L[i]? = some l → OwnW wr B0 64 x l.fs)
    (z5 : ∀ (i j : Nat) x y, i ≠ j → vs[i]? = some x → vs[j]? = some y → x.ownBlock = none ∨ x.ownBlock ≠ y.ownBlock)
    (oy : OwnW W1 wr.heap.size 64 y o.fs) (b1 : Below wr.heap.size wr W1) (hown : W3.ownsRow B0 109 2 v n (obC L vs ++ [i64 o.ty, y])) (hgr : (W1.alloc (.cells #[i64 o.ty, y] 109)).grownBy W3 ot.ownBlock)
    (q3 : Bx wr p 50 #[xt, ot, ys]) (B : Below B0 w wr) (hB : B0 ≤ wr.heap.size) (hp : B0 ≤ p) :
    (W3.cell? ⟨p, 1, none⟩ = some ot ∧ W3.frozen? ⟨p, 1, none⟩ = false) ∧ PushO wr (W3.setCell ⟨p, 1, none⟩ v) w B0 p v xt ys L o := by
  have b2 : Below wr.heap.size wr (W1.alloc (.cells #[i64 o.ty, y] 109)) := b1.alloc b1.size _
  have z2' := own_below z2 b2
  have nx := fun {g : Nat} {cs : Array Value} (hq : Bx (W1.alloc (.cells #[i64 o.ty, y] 109)) g 50 cs) => Bx.grown hq hgr (own_not_bx z2' hq (by decide))
  have r3 := nx (q3.below b2)
  have oO : OwnO W3 B0 v (L ++ [o]) := OwnO.snoc z1 z2' hown (fun i x l h5 h6 => OwnW.below (z4 i x l h5 h6) b2) z5 (OwnW.below (own_mono oy hB) ((Below.refl _ W1).alloc (Nat.le_refl _) _))
    (fun i x hx => own_ne (z4 i x _ hx (List.getElem?_eq_getElem (by have := (List.getElem?_eq_some_iff.1 hx).1; omega))) oy (Nat.le_refl _)) hgr
  have B3 : Below B0 w W3 := (B.trans (b2.mono hB)).grown hgr (Nat.le_trans hB b2.size) (fun k hk => (z2'.lt k hk).1)
  refine ⟨⟨r3.cell 1, r3.free 1⟩, oO.set r3 (by decide) (by decide), ?_, B3.setCell (p := ⟨p, 1, none⟩) hp _, ?_, ?_, ?_⟩
  · have := r3.set (i := 1) v
    simpa using this
  · intro B e sz n x xs h h1 h2
    exact own_set (World.ownsRow.kept (own_below h b2) hgr (own_unlike (own_below h b2) z2' h1)) r3 h2
  · intro q t cs h h1 h2
    exact ((h.below b2).grown hgr (own_not_bx z2' (h.below b2) h2)).far (p := ⟨p, 1, none⟩) h1 _
  · intro k e z0 g n f K h
    have h2 := h.below b2
    obtain ⟨es, ck, hm⟩ := h2.mapL.block
    have h3 := h2.kept hgr (fun e => by
      rcases own_ne_map z2' hm with h | h
      · rw [h] at e; cases e
      · exact h e.symm)
    obtain ⟨es', ck', hm'⟩ := h3.mapL.block
    exact h3.kept (grown_set _ ⟨p, 1, none⟩ _) (fun e => r3.ne_map hm' (by injection e))
theorem OwnM.slotsE {w W : World} {B E g n c : Nat} {tv ov : Value} {m : Mo} {S : List Sl} (h : OwnM w B E tv ov (.slice (some ⟨g, 0, none⟩) n c) m) (hg : w.grownBy W (some g)) (hS : OwnS W B E (.slice (some ⟨g, 0, none⟩) n c) S) (h1 : 69 ≠ E) (h2 : 5 ≠ E) (h3 : 109 ≠ E) (h4 : 64 ≠ E) :
    OwnM W B E tv ov (.slice (some ⟨g, 0, none⟩) n c) ⟨m.types, m.objs, S⟩ := by
  refine ⟨OwnT.kept h.t h.s hg h1 h2, ?_, hS⟩
  obtain ⟨vs, a1, a2, a4, a5⟩ := h.o
  exact ⟨vs, a1, World.ownsRow.kept a2 hg (own_unlike a2 h.s h3), fun i x l h5 h6 => World.ownsRow.kept (a4 i x l h5 h6) hg (own_unlike (a4 i x l h5 h6) h.s h4), a5⟩
theorem OwnM.set3E {w : World} {B E p : Nat} {tv ov sv a b c : Value} {m : Mo} {cs : Array Value} (h : OwnM w B E tv ov sv m) (hg : Bx w p 50 cs) (hE : E ≠ 50) :
    OwnM (((w.setCell ⟨p, 0, none⟩ a).setCell ⟨p, 1, none⟩ b).setCell ⟨p, 2, none⟩ c) B E tv ov sv m := by
  have st : ∀ {w : World} {cs : Array Value} {i : Nat} {u : Value}, OwnM w B E tv ov sv m → Bx w p 50 cs → OwnM (w.setCell ⟨p, i, none⟩ u) B E tv ov sv m := fun h hg => ⟨h.t.set hg (by decide) (by decide), h.o.set hg (by decide) (by decide), own_set h.s hg hE⟩
  exact st (st (st h hg) (hg.set a)) ((hg.set a).set b)
/-- the number of the object at an address, or 0 -/
def numI (O : List Hb) (a : Int) : Int := match idx O a with | some i => (i : Int) | none => 0
theorem numI_idxI {O : List Hb} {a : Int} (h : IsObj O a) : numI O a = idxI O a := by
  obtain ⟨i, b, h1, _⟩ := idx_of h
  unfold numI idxI; rw [h1]
theorem numI_rng {O : List Hb} {a : Int} (h : O.length ≤ 960) : 0 ≤ numI O a ∧ numI O a ≤ 960 := by
  unfold numI
  cases h2 : idx O a with
  | none => exact ⟨Int.le_refl _, by decide⟩
  | some i =>
    obtain ⟨b, h3, _⟩ := idx_some h2
    have := (List.getElem?_eq_some_iff.1 h3).1
    show 0 ≤ (i : Int) ∧ (i : Int) ≤ 960
    exact ⟨by omega, by omega⟩
theorem numI_snoc {O : List Hb} {b : Hb} {a : Int} (hb : ¬ IsObj O b.at_) : numI (O ++ [b]) a = if a = b.at_ then (O.length : Int) else numI O a := by
  unfold numI
  rw [idx_app]
  by_cases h : a = b.at_
  · subst h
    rw [if_pos rfl, idx_none.2 hb, idx, if_pos rfl]
    show ((0 + O.length : Nat) : Int) = _
    omega
  · rw [if_neg h]
    cases idx O a with
    | some i => rfl
    | none => rw [idx, if_neg (fun e => h e.symm), idx]; rfl
theorem objs_new {l : List UInt64} (h : allErr l = 0) {j : Nat} {b : Hb} (hb : (allL l)[j]? = some b) : ¬ IsObj (objs ((allL l).take j)) b.at_ := by
  rintro ⟨c, hc, e⟩
  obtain ⟨hc1, _⟩ := objs_mem.1 hc
  obtain ⟨i, hi⟩ := List.getElem?_of_mem hc1
  have hi1 := (List.getElem?_eq_some_iff.1 hi).1
  rw [List.length_take] at hi1
  rw [List.getElem?_take_of_lt (by omega)] at hi
  have hp := List.pairwise_iff_getElem.1 (chain_apart (chain_iff.1 (parsed_ok.1 (allErr_ok h).2).1)).2
  obtain ⟨i1, i2⟩ := List.getElem?_eq_some_iff.1 hi
  obtain ⟨j1, j2⟩ := List.getElem?_eq_some_iff.1 hb
  have := hp i j i1 j1 (by omega)
  rw [i2, j2] at this
  obtain ⟨x, _, _, hs, h4, _⟩ := all_mem h (List.mem_of_getElem? hi)
  have hz := szN_ge hs
  have : c.size = szN l x := by rw [h4]; exact stand_size hs
  omega
theorem inKinds {l : List UInt64} (rt : Rt l) {b : Hb} (hb : b ∈ O19 l) : ∃ (a q : Nat) (t : List UInt8), b.at_ = a ∧ b.ty = q ∧ (T19 l)[q]? = some t ∧ kindsB (T19 l) b = t ∧ 128 ≤ a ∧ a ≤ 2048 ∧ a + 2 + t.length ≤ l.length ∧ t.length ≤ 8 := by
  have hty : Typed (T19 l) b := rt.good 8 (by omega) (by omega) b hb
  obtain ⟨a, q, t, ha, hq, hTq, hkB, _, hle, _⟩ := in_kinds (in19_of rt.al hb) hty
  have hkE : kErr t = 0 := (T19_ok rt.ty).2 t (List.mem_of_getElem? hTq)
  obtain ⟨a', h1, h2, h3, h4, _⟩ := objs_at rt.al hb
  have := rt.sz.2.1
  exact ⟨a, q, t, ha, hq, hTq, hkB, by omega, by omega, hle, (kErr_ok hkE).1⟩
end Go.Proofs.Ytodbbacmdjcheaa
namespace Go.Proofs.Ytodbbacmdjcheaa
open Go.RowKit L01 L02 L05 L14 L15
/-- a word of a slice of the call's own -/
theorem OwnW.at_ {w : World} {base : Nat} {v : Value} {l : List UInt64} (h : OwnW w base 64 v l) {k : Nat} (hk : k < l.length) :
    ∃ ad, (∀ W, (Instr.indexAt 25 v (.int .i64 (k : Int))).run Try.prog W = .ok (.pointer (some ad)) W) ∧ w.cell? ad = some (.int .u64 (l.getD k 0).toNat) ∧ w.frozen? ad = false ∧ base ≤ ad.block ∧ v.ownBlock = some ad.block ∧ ∀ x : UInt64, OwnW (w.setCell ad (.int .u64 x.toNat)) base 64 v (l.set k x) := by
  obtain ⟨g, cap, cur, rfl, hB, hg, hnc, hcm, hcs, htake⟩ := own_form h (by omega)
  have hrd := Rd.of_own h
  have hix := fun W => Rd.ixN hrd Try.underlying25 one_u64 hk W
  have hcell := Rd.cell hrd (j := k) (u := .int .u64 (l.getD k 0).toNat) (by rw [List.getElem?_map, List.getElem?_eq_getElem hk, List.getD_eq_getElem?_getD, List.getElem?_eq_getElem hk]; rfl)
  have e1 : cellAt (.slice (some ⟨g, 0, none⟩) l.length cap) (k * 1) = ⟨g, k, none⟩ := by simp [cellAt]
  have e2 : cellAt (.slice (some ⟨g, 0, none⟩) l.length cap) k = ⟨g, k, none⟩ := by simp [cellAt]
  rw [e2] at hcell
  exact ⟨⟨g, k, none⟩, fun W => by rw [← e1]; exact hix W, hcell, World.ownsRow.frozenAt h k, hB, rfl, fun x => OwnW.set (World.ownsRow.stored h k _).1⟩
end Go.Proofs.Ytodbbacmdjcheaa
