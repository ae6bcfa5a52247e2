/- Contracts of the functions that the laws 'B' reach, part 15. No condition. -/
import Derived.Test.YtmbokdnndlnjkaaMBn
set_option linter.unusedVariables false
set_option linter.unusedSimpArgs false
namespace Go.Proofs.Ytmbokdnndlnjkaa
open Go.RowKit L02 L13 L18 L20
theorem run_lit0 {P : Program} {t e : TypeId} (W : World) (ht : P.underlying t = some (.slice e)) (hi : (P.info? e).isSome = true) : (Instr.buildSlice t 0 #[]).run P W = .ok (.slice (some ⟨W.heap.size, 0, none⟩) 0 0) (W.alloc (.cells #[] e)) := by
  obtain ⟨i, hi'⟩ := Option.isSome_iff_exists.1 hi
  simp [Instr.buildSlice, run_underlying ht, sizeOf, typeInfo, hi', go_sem]
set_option maxRecDepth 100000 in
set_option maxHeartbeats 1000000 in
theorem CloneW_rd (x : Value) (n : Nat) (xs : List Value) (hn : n ≤ 1000) (h1 : ∀ u ∈ xs, u.oneCell' = true) (w : World) (h : Rd w 1 x n xs) :
    Calls Try.prog 78 #[x] w fun e w' => ∃ y, e = .returned y ∧ w'.ownsRow w.heap.size 24 1 y n xs ∧ Below w.heap.size w w' := by
  have B : Below w.heap.size w w := Below.refl _ _
  have HX := Lib.hid h; have HU := Lib.hid h1
  obtain ⟨A, c, rfl, hc, _, hl, hA, _⟩ := h
  rcases A with _ | ad
  · have hc0 := hA rfl
    subst hc0
    obtain rfl : n = 0 := by omega
    obtain rfl : xs = [] := List.eq_nil_of_length_eq_zero (by simpa using hl)
    clear hl hA hc
    have q : ∀ W, (binOp .eql 22 (.slice none 0 0) (.slice none 0 0)).run Try.prog W = .ok (.bool true) W := fun W => Lib.run_eql_slice_nil W _ _ _ _ _ _ _ Try.underlying22
    go_enter Try.func78, Try.ntmps78
    go_wp2
    go_ret
    exact ⟨_, rfl, World.ownsRow_nil _ _ _ _, B⟩
  · clear hl hA hc
    have q : ∀ W, (binOp .eql 22 (.slice (some ad) n c) (.slice none 0 0)).run Try.prog W = .ok (.bool false) W := fun W => Lib.run_eql_slice_nil W _ _ _ _ _ _ _ Try.underlying22
    go_enter Try.func78, Try.ntmps78
    go_wp2_with (at_builtin; refine wpList_append (by rfl) rfl rfl rfl Try.underlying22 info_u64 rfl (by omega) (by exact lit0_own (Nat.le_refl _)) (by exact HX.out.alloc _) HU.out (by omega) (by omega) (by exact B.alloc B.size _) (Nat.le_refl _) ?_; intro v1 w3 o3 B3 g3; clear g3)
    go_ret
    exact ⟨_, rfl, by simpa using o3, B3⟩
set_option maxRecDepth 100000 in
set_option maxHeartbeats 1000000 in
theorem CloneB_rd (x : Value) (n : Nat) (xs : List Value) (hn : n ≤ 1000) (h1 : ∀ u ∈ xs, u.oneCell' = true) (w : World) (h : Rd w 1 x n xs) :
    Calls Try.prog 111 #[x] w fun e w' => ∃ y, e = .returned y ∧ w'.ownsRow w.heap.size 5 1 y n xs ∧ Below w.heap.size w w' := by
  have B : Below w.heap.size w w := Below.refl _ _
  have HX := Lib.hid h; have HU := Lib.hid h1
  obtain ⟨A, c, rfl, hc, _, hl, hA, _⟩ := h
  rcases A with _ | ad
  · have hc0 := hA rfl
    subst hc0
    obtain rfl : n = 0 := by omega
    obtain rfl : xs = [] := List.eq_nil_of_length_eq_zero (by simpa using hl)
    clear hl hA hc
    have q : ∀ W, (binOp .eql 28 (.slice none 0 0) (.slice none 0 0)).run Try.prog W = .ok (.bool true) W := fun W => Lib.run_eql_slice_nil W _ _ _ _ _ _ _ Try.underlying28
    go_enter Try.func111, Try.ntmps111
    go_wp2
    go_ret
    exact ⟨_, rfl, World.ownsRow_nil _ _ _ _, B⟩
  · clear hl hA hc
    have q : ∀ W, (binOp .eql 28 (.slice (some ad) n c) (.slice none 0 0)).run Try.prog W = .ok (.bool false) W := fun W => Lib.run_eql_slice_nil W _ _ _ _ _ _ _ Try.underlying28
    go_enter Try.func111, Try.ntmps111
    go_wp2_with (at_builtin; refine wpList_append (by rfl) rfl rfl rfl Try.underlying28 info_u8 rfl (by omega) (by exact lit0_own (Nat.le_refl _)) (by exact HX.out.alloc _) HU.out (by omega) (by omega) (by exact B.alloc B.size _) (Nat.le_refl _) ?_; intro v1 w3 o3 B3 g3; clear g3)
    go_ret
    exact ⟨_, rfl, by simpa using o3, B3⟩
set_option maxRecDepth 100000 in
set_option maxHeartbeats 1000000 in
theorem CloneS_rd (x : Value) (n : Nat) (xs : List Value) (hn : n ≤ 1000) (h1 : ∀ u ∈ xs, u.oneCell' = true) (w : World) (h : Rd w 3 x n xs) :
    Calls Try.prog 110 #[x] w fun e w' => ∃ y, e = .returned y ∧ w'.ownsRow w.heap.size 46 3 y n xs ∧ Below w.heap.size w w' := by
  have B : Below w.heap.size w w := Below.refl _ _
  have HX := Lib.hid h; have HU := Lib.hid h1
  obtain ⟨A, c, rfl, hc, _, hl, hA, _⟩ := h
  rcases A with _ | ad
  · have hc0 := hA rfl
    subst hc0
    obtain rfl : n = 0 := by omega
    obtain rfl : xs = [] := List.eq_nil_of_length_eq_zero (by simpa using hl)
    clear hl hA hc
    have q : ∀ W, (binOp .eql 60 (.slice none 0 0) (.slice none 0 0)).run Try.prog W = .ok (.bool true) W := fun W => Lib.run_eql_slice_nil W _ _ _ _ _ _ _ Try.underlying60
    go_enter Try.func110, Try.ntmps110
    go_wp2
    go_ret
    exact ⟨_, rfl, World.ownsRow_nil _ _ _ _, B⟩
  · clear hl hA hc
    have q : ∀ W, (binOp .eql 60 (.slice (some ad) n c) (.slice none 0 0)).run Try.prog W = .ok (.bool false) W := fun W => Lib.run_eql_slice_nil W _ _ _ _ _ _ _ Try.underlying60
    go_enter Try.func110, Try.ntmps110
    go_wp2_with (at_builtin; refine wpList_append (by rfl) rfl rfl rfl Try.underlying60 info_slot rfl (by omega) (by exact lit0_own (Nat.le_refl _)) (by exact HX.out.alloc _) HU.out (by omega) (by omega) (by exact B.alloc B.size _) (Nat.le_refl _) ?_; intro v1 w3 o3 B3 g3; clear g3)
    go_ret
    exact ⟨_, rfl, by simpa using o3, B3⟩
theorem CloneW_any (x : Value) (l : List UInt64) (hn : l.length ≤ 1000) (w : World) (h : Words w x l) :
    Calls Try.prog 78 #[x] w fun e w' => ∃ y, e = .returned y ∧ OwnW w' w.heap.size 24 y l ∧ Below w.heap.size w w' := CloneW_rd x _ _ hn (one_u64s l) w h
theorem CloneB_any (x : Value) (l : List UInt8) (hn : l.length ≤ 1000) (w : World) (h : Byts w x l) :
    Calls Try.prog 111 #[x] w fun e w' => ∃ y, e = .returned y ∧ OwnB w' w.heap.size 5 y l ∧ Below w.heap.size w w' := CloneB_rd x _ _ hn (one_u8s l) w h
theorem CloneS_any (x : Value) (l : List Sl) (hn : l.length ≤ 1000) (w : World) (h : Slots w x l) :
    Calls Try.prog 110 #[x] w fun e w' => ∃ y, e = .returned y ∧ OwnS w' w.heap.size 46 y l ∧ Below w.heap.size w w' := CloneS_rd x _ _ hn (tabL_one l) w h
end Go.Proofs.Ytmbokdnndlnjkaa
namespace Go.Proofs.Ytmbokdnndlnjkaa
open Go.RowKit L02 L13 L18 L20
def Small (m : Mo) : Prop := m.types.length ≤ 20 ∧ m.objs.length ≤ 962 ∧ m.slots.length ≤ 30 ∧ (∀ t ∈ m.types, t.length ≤ 20) ∧ ∀ o ∈ m.objs, o.fs.length ≤ 20
theorem small_chk {m : Mo} (h : chk m = 0) : Small m := by
  obtain ⟨h1, h2, h3, h4, h5, h6⟩ := chk_ok h
  have ht : ∀ t ∈ m.types, t.length ≤ 8 := fun t ht => (kErr_ok (h4 t ht)).1
  refine ⟨by omega, by omega, by omega, fun t hh => by have := ht t hh; omega, fun o ho => ?_⟩
  have ho' := h5 o ho
  have hty : o.ty.toNat < m.types.length := by have := ho'.1; omega
  have : ty m.types o ∈ m.types := by
    rw [ty, List.getD_eq_getElem?_getD, List.getElem?_eq_getElem hty]
    exact List.getElem_mem hty
  have := ht _ this
  have := ho'.2.1
  omega
theorem OwnT.set {w : World} {B p i : Nat} {v u : Value} {L : List (List UInt8)} {t : TypeId} {cs : Array Value} (h : OwnT w B v L) (hg : Bx w p t cs) (h1 : 28 ≠ t) (h2 : 5 ≠ t) : OwnT (w.setCell ⟨p, i, none⟩ u) B v L := by
  obtain ⟨vs, a1, a2, a4⟩ := h; exact ⟨vs, a1, own_set a2 hg h1, fun i x l h5 h6 => own_set (a4 i x l h5 h6) hg h2⟩
theorem OwnO.set {w : World} {B p i : Nat} {v u : Value} {L : List Ob} {t : TypeId} {cs : Array Value} (h : OwnO w B v L) (hg : Bx w p t cs) (h1 : 135 ≠ t) (h2 : 24 ≠ t) : OwnO (w.setCell ⟨p, i, none⟩ u) B v L := by
  obtain ⟨vs, a1, a2, a4, a5⟩ := h; exact ⟨vs, a1, own_set a2 hg h1, fun i x l h5 h6 => own_set (a4 i x l h5 h6) hg h2, a5⟩
/-- one more object: xs the slices of fields, x the new one; the row was appended to. -/
theorem OwnO.snoc {w w' : World} {base n : Nat} {v v' x : Value} {L : List Ob} {o : Ob} {vs : List Value} (h1 : vs.length = L.length) (ho0 : w.ownsRow base 135 2 v L.length (obC L vs)) (ho : w'.ownsRow base 135 2 v' n (obC L vs ++ [i64 o.ty, x]))
    (h4 : ∀ (i : Nat) x l, vs[i]? = some x → L[i]? = some l → OwnW w base 24 x l.fs) (h5 : ∀ (i j : Nat) x y, i ≠ j → vs[i]? = some x → vs[j]? = some y → x.ownBlock = none ∨ x.ownBlock ≠ y.ownBlock)
    (hx : OwnW w base 24 x o.fs) (hap : ∀ (i : Nat) y, vs[i]? = some y → (x.ownBlock = none ∨ x.ownBlock ≠ y.ownBlock) ∧ (y.ownBlock = none ∨ y.ownBlock ≠ x.ownBlock)) (hg : w.grownBy w' v.ownBlock) : OwnO w' base v' (L ++ [o]) := by
  have hn : n = (L ++ [o]).length := by have := ho.1; rw [List.length_append, obC_len h1] at this; simp at this ⊢; omega
  subst hn
  have keep : ∀ y m, OwnW w base 24 y m → OwnW w' base 24 y m := fun y m hy => World.ownsRow.kept hy hg (own_unlike hy ho0 (by decide))
  have idx : ∀ i, i ≥ vs.length → ∀ y, (vs ++ [x])[i]? = some y → i = vs.length ∧ y = x := by
    intro i hi y hy
    rw [List.getElem?_append_right hi] at hy
    have h0 : i - vs.length = 0 := by
      rcases Nat.eq_zero_or_pos (i - vs.length) with h | h
      · exact h
      · rw [List.getElem?_eq_none (by simp; omega)] at hy; cases hy
    rw [h0] at hy
    simp at hy
    exact ⟨by omega, hy.symm⟩
  refine ⟨vs ++ [x], by simp [h1], by rw [obC_snoc h1]; exact ho, fun i y l hy hl => ?_, fun i j y z hij hy hz => ?_⟩
  · by_cases hi : i < vs.length
    · rw [List.getElem?_append_left hi] at hy
      rw [List.getElem?_append_left (by omega)] at hl
      exact keep _ _ (h4 i y l hy hl)
    · obtain ⟨rfl, rfl⟩ := idx i (by omega) y hy
      rw [List.getElem?_append_right (by omega), h1] at hl
      simp at hl; subst hl
      exact keep _ _ hx
  · by_cases hi : i < vs.length
    · rw [List.getElem?_append_left hi] at hy
      by_cases hj : j < vs.length
      · rw [List.getElem?_append_left hj] at hz
        exact h5 i j y z hij hy hz
      · obtain ⟨_, rfl⟩ := idx j (by omega) z hz
        exact (hap i y hy).2
    · obtain ⟨e1, rfl⟩ := idx i (by omega) y hy
      by_cases hj : j < vs.length
      · rw [List.getElem?_append_left hj] at hz
        exact (hap j z hz).1
      · obtain ⟨e2, rfl⟩ := idx j (by omega) z hz
        omega
theorem own_form' {w : World} {B e sz n : Nat} {v : Value} {xs : List Value} (h : w.ownsRow B e sz v n xs) : ∃ A c, v = .slice A n c := by
  obtain ⟨A, c, e, _⟩ := Rd.of_own h; exact ⟨A, c, e⟩
/-- what one more copied type leaves of memory -/
theorem copyT_mem {w wr W1 W3 : World} {B0 p a b n : Nat} {xt y v o ys : Value} {vs : List Value} {L : List (List UInt8)} {t : List UInt8} {S : List Sl} {cs1 cs2 : Array Value}
    (z1 : vs.length = L.length) (z2 : wr.ownsRow B0 28 1 xt L.length vs) (z4 : ∀ (i : Nat) x l, vs[i]? = some x → L[i]? = some l → OwnB wr B0 5 x l)
    (oy : OwnB W1 wr.heap.size 5 y t) (b1 : Below wr.heap.size wr W1) (hown : W3.ownsRow B0 28 1 v n (vs ++ [y])) (hgr : (W1.alloc (.cells #[y] 28)).grownBy W3 xt.ownBlock)
    (q1 : Bx wr a 85 cs1) (q2 : Bx wr b 85 cs2) (q3 : Bx wr p 85 #[xt, o, ys]) (oS : OwnS wr B0 46 ys S) (B : Below B0 w wr) (hB : B0 ≤ wr.heap.size) (ha : a ≠ p) (hb : b ≠ p) (hp : B0 ≤ p) (hB0 : B0 ≤ w.heap.size) :
    (W3.cell? ⟨p, 0, none⟩ = some xt ∧ W3.frozen? ⟨p, 0, none⟩ = false) ∧ OwnT (W3.setCell ⟨p, 0, none⟩ v) B0 v (L ++ [t]) ∧ Bx (W3.setCell ⟨p, 0, none⟩ v) a 85 cs1 ∧ Bx (W3.setCell ⟨p, 0, none⟩ v) b 85 cs2 ∧ Bx (W3.setCell ⟨p, 0, none⟩ v) p 85 #[v, o, ys] ∧
      OwnS (W3.setCell ⟨p, 0, none⟩ v) B0 46 ys S ∧ Below B0 w (W3.setCell ⟨p, 0, none⟩ v) := by
  have b2 : Below wr.heap.size wr (W1.alloc (.cells #[y] 28)) := b1.alloc b1.size _
  have z2' := own_below z2 b2
  have nx := fun {g : Nat} {cs : Array Value} (hq : Bx (W1.alloc (.cells #[y] 28)) g 85 cs) => Bx.grown hq hgr (own_not_bx z2' hq (by decide))
  have r1 := nx (q1.below b2); have r2 := nx (q2.below b2); have r3 := nx (q3.below b2)
  have oS' : OwnS W3 B0 46 ys S := World.ownsRow.kept (own_below oS b2) hgr (own_unlike (own_below oS b2) z2' (by decide))
  have oT : OwnT W3 B0 v (L ++ [t]) := OwnT.snoc z1 z2' hown (fun i x l h5 h6 => OwnB.below (z4 i x l h5 h6) b2) (OwnB.below (own_mono oy hB) ((Below.refl _ W1).alloc (Nat.le_refl _) _)) hgr
  have B3 : Below B0 w W3 := (B.trans (b2.mono hB)).grown hgr (Nat.le_trans hB b2.size) (fun k hk => (z2'.lt k hk).1)
  refine ⟨⟨r3.cell 0, r3.free 0⟩, oT.set r3 (by decide) (by decide), r1.far (p := ⟨p, 0, none⟩) ha _, r2.far (p := ⟨p, 0, none⟩) hb _, ?_, own_set oS' r3 (by decide), B3.setCell (p := ⟨p, 0, none⟩) hp _⟩
  have := r3.set (i := 0) v
  simpa using this
theorem OwnT.kept {w w' : World} {B B2 e n sz : Nat} {v a : Value} {L : List (List UInt8)} {xs : List Value} (h : OwnT w B v L) (ha : w.ownsRow B2 e sz a n xs) (hg : w.grownBy w' a.ownBlock) (h1 : 28 ≠ e) (h2 : 5 ≠ e) : OwnT w' B v L := by
  obtain ⟨vs, a1, a2, a4⟩ := h
  exact ⟨vs, a1, World.ownsRow.kept a2 hg (own_unlike a2 ha h1), fun i x l h5 h6 => World.ownsRow.kept (a4 i x l h5 h6) hg (own_unlike (a4 i x l h5 h6) ha h2)⟩
/-- what one more copied object leaves of memory -/
theorem copyO_mem {w wr W1 W3 : World} {B0 p a b n : Nat} {ot y v xt ys : Value} {vs : List Value} {L : List Ob} {o : Ob} {S : List Sl} {T : List (List UInt8)} {cs1 cs2 : Array Value}
    (z1 : vs.length = L.length) (z2 : wr.ownsRow B0 135 2 ot L.length (obC L vs)) (z4 : ∀ (i : Nat) x l, vs[i]? = some x → L[i]? = some l → OwnW wr B0 24 x l.fs)
    (z5 : ∀ (i j : Nat) x y, i ≠ j → vs[i]? = some x → vs[j]? = some y → x.ownBlock = none ∨ x.ownBlock ≠ y.ownBlock)
    (oy : OwnW W1 wr.heap.size 24 y o.fs) (b1 : Below wr.heap.size wr W1) (hown : W3.ownsRow B0 135 2 v n (obC L vs ++ [i64 o.ty, y])) (hgr : (W1.alloc (.cells #[i64 o.ty, y] 135)).grownBy W3 ot.ownBlock)
    (q1 : Bx wr a 85 cs1) (q2 : Bx wr b 85 cs2) (q3 : Bx wr p 85 #[xt, ot, ys]) (oT : OwnT wr B0 xt T) (oS : OwnS wr B0 46 ys S) (B : Below B0 w wr) (hB : B0 ≤ wr.heap.size) (ha : a ≠ p) (hb : b ≠ p) (hp : B0 ≤ p) {q : Nat} {tq : TypeId} {cs4 : Array Value} (q4 : Bx wr q tq cs4) (hq : ot.ownBlock = none ∨ ot.ownBlock ≠ some q) (hqp : q ≠ p) :
    (W3.cell? ⟨p, 1, none⟩ = some ot ∧ W3.frozen? ⟨p, 1, none⟩ = false) ∧ OwnO (W3.setCell ⟨p, 1, none⟩ v) B0 v (L ++ [o]) ∧ Bx (W3.setCell ⟨p, 1, none⟩ v) a 85 cs1 ∧ Bx (W3.setCell ⟨p, 1, none⟩ v) b 85 cs2 ∧ Bx (W3.setCell ⟨p, 1, none⟩ v) p 85 #[xt, v, ys] ∧
      OwnT (W3.setCell ⟨p, 1, none⟩ v) B0 xt T ∧ OwnS (W3.setCell ⟨p, 1, none⟩ v) B0 46 ys S ∧ Below B0 w (W3.setCell ⟨p, 1, none⟩ v) ∧ Bx W3 q tq cs4 ∧ Bx (W3.setCell ⟨p, 1, none⟩ v) q tq cs4 := by
  have b2 : Below wr.heap.size wr (W1.alloc (.cells #[i64 o.ty, y] 135)) := b1.alloc b1.size _
  have z2' := own_below z2 b2
  have nx := fun {g : Nat} {cs : Array Value} (hq : Bx (W1.alloc (.cells #[i64 o.ty, y] 135)) g 85 cs) => Bx.grown hq hgr (own_not_bx z2' hq (by decide))
  have r1 := nx (q1.below b2); have r2 := nx (q2.below b2); have r3 := nx (q3.below b2)
  have oS' : OwnS W3 B0 46 ys S := World.ownsRow.kept (own_below oS b2) hgr (own_unlike (own_below oS b2) z2' (by decide))
  have oT' : OwnT W3 B0 xt T := (oT.below b2).kept z2' hgr (by decide) (by decide)
  have oO : OwnO W3 B0 v (L ++ [o]) := OwnO.snoc z1 z2' hown (fun i x l h5 h6 => OwnW.below (z4 i x l h5 h6) b2) z5 (OwnW.below (own_mono oy hB) ((Below.refl _ W1).alloc (Nat.le_refl _) _))
    (fun i x hx => own_ne (z4 i x _ hx (List.getElem?_eq_getElem (by have := (List.getElem?_eq_some_iff.1 hx).1; omega))) oy (Nat.le_refl _)) hgr
  have B3 : Below B0 w W3 := (B.trans (b2.mono hB)).grown hgr (Nat.le_trans hB b2.size) (fun k hk => (z2'.lt k hk).1)
  refine ⟨⟨r3.cell 1, r3.free 1⟩, oO.set r3 (by decide) (by decide), r1.far (p := ⟨p, 1, none⟩) ha _, r2.far (p := ⟨p, 1, none⟩) hb _, ?_, oT'.set r3 (by decide) (by decide), own_set oS' r3 (by decide), B3.setCell (p := ⟨p, 1, none⟩) hp _, (q4.below b2).grown hgr hq, ((q4.below b2).grown hgr hq).far (p := ⟨p, 1, none⟩) hqp _⟩
  have := r3.set (i := 1) v
  simpa using this
/-- a literal of one object -/
theorem lit_obj {w : World} {ty : Int} {x : Value} : Rd (w.alloc (.cells #[i64 ty, x] 135)) 2 (.slice (some ⟨w.heap.size, 0, none⟩) 1 1) 1 [i64 ty, x] := lit_rdK (n := 1) (sz := 2) rfl (by omega)
theorem one_obj {ty : Int} {x : Value} (h : x.oneCell' = true) : ∀ u ∈ [i64 ty, x], u.oneCell' = true := by
  intro u hu
  rcases List.mem_cons.1 hu with rfl | hu
  · rfl
  · simp at hu; subst hu; exact h
theorem OwnM.set {w : World} {B p i : Nat} {tv ov sv u : Value} {m : Mo} {cs : Array Value} (h : OwnM w B 46 tv ov sv m) (hg : Bx w p 85 cs) : OwnM (w.setCell ⟨p, i, none⟩ u) B 46 tv ov sv m :=
  ⟨h.t.set hg (by decide) (by decide), h.o.set hg (by decide) (by decide), own_set h.s hg (by decide)⟩
/-- a model's three cells are stored elsewhere -/
theorem OwnM.set3 {w : World} {B p : Nat} {tv ov sv a b c : Value} {m : Mo} {cs : Array Value} (h : OwnM w B 46 tv ov sv m) (hg : Bx w p 85 cs) :
    OwnM (((w.setCell ⟨p, 0, none⟩ a).setCell ⟨p, 1, none⟩ b).setCell ⟨p, 2, none⟩ c) B 46 tv ov sv m :=
  ((h.set hg).set (hg.set a)).set ((hg.set a).set b)
end Go.Proofs.Ytmbokdnndlnjkaa
namespace Go.Proofs.Ytmbokdnndlnjkaa
open Go.RowKit L02 L13 L18 L20
structure GCopy where
  y : Value
  W1 : World
  v : Value
  W3 : World
theorem enter_CloneB (x : Value) (W : World) : (callFunc 111 (#[] ++ #[x] ++ #[])).run Try.prog W = .ok (.enter 111 #[x]) W := by
  simp [go_sem]
/-- the worlds of a round that copies one type -/
def wsT (w : World) (p : Nat) (g : GCopy) : Nat → World
  | 0 => w.drew
  | 1 => g.W1
  | 2 => g.W1.alloc (.cells #[g.y] 28)
  | 3 => g.W3
  | _ => g.W3.setCell ⟨p, 0, none⟩ g.v
theorem enter_CloneW (x : Value) (W : World) : (callFunc 78 (#[] ++ #[x] ++ #[])).run Try.prog W = .ok (.enter 78 #[x]) W := by
  simp [go_sem]
/-- the worlds of a round that copies one object -/
def wsO (w : World) (p : Nat) (ty : Int) (g : GCopy) : Nat → World
  | 0 => w.drew
  | 1 => g.W1
  | 2 => g.W1
  | 3 => g.W1.alloc (.cells #[i64 ty, g.y] 135)
  | 4 => g.W3
  | _ => g.W3.setCell ⟨p, 1, none⟩ g.v
set_option maxRecDepth 100000 in
set_option maxHeartbeats 4000000 in
theorem copied_any (tv ov sv : Value) (m : Mo) (hsm : Small m) (w : World) (h : Mod w tv ov sv m) :
    Calls Try.prog 80 #[.agg #[tv, ov, sv]] w fun e w' => ∃ tv' ov' sv', e = .returned (.agg #[tv', ov', sv']) ∧ OwnM w' w.heap.size 46 tv' ov' sv' m ∧ Below w.heap.size w w' := by
  have B : Below w.heap.size w w := Below.refl _ _
  have lt := h.t.len; have lo := h.o.len
  obtain ⟨NT, hNT⟩ : ∃ N, N = m.types.length := ⟨_, rfl⟩
  obtain ⟨NO, hNO⟩ : ∃ N, N = m.objs.length := ⟨_, rfl⟩
  rw [← hNT] at lt; rw [← hNO] at lo
  obtain ⟨s1, s2, s3, s4, s5⟩ := hsm
  have CS := Lib.hid (fun w h => CloneS_any sv m.slots (by omega) w h)
  have hNT20 : NT ≤ 20 := by omega
  have hNO962 : NO ≤ 962 := by omega
  have H := Lib.hid h; have HNT := Lib.hid hNT; have HNO := Lib.hid hNO; have S4 := Lib.hid s4; have S5 := Lib.hid s5
  clear h hNT hNO s4 s5 s1 s2 s3
  go_enter Try.func80, Try.ntmps80
  go_upto_region 1 with (fail)
  refine wp_gen (fun Wv => Bx Wv (w.heap.size) (85) (#[tv, ov, sv]) ∧ Bx Wv (w.heap.size + 1) (85) (#[.slice none 0 0, .slice none 0 0, .slice none 0 0]) ∧ Below w.heap.size w Wv) ⟨(((Bx.at_ (by simp)).alloc _)), ((Bx.at_ (by simp))), (((Below.refl _ w).alloc (by simp <;> omega) _).alloc (by simp <;> omega) _)⟩ ?_
  rintro wa1 ⟨g1, g2, b⟩
  replace B := B.trans (b.mono B.size); clear b
  have c_g1 := g1.cell; have f_g1 := g1.free; have a_g1 := fun o => (g1.alloc o).cell; have d_g1 := fun o o2 => ((g1.alloc o).alloc o2).cell; have e_g1 := fun o => (g1.alloc o).free
  have c_g2 := g2.cell; have f_g2 := g2.free; have a_g2 := fun o => (g2.alloc o).cell; have d_g2 := fun o o2 => ((g2.alloc o).alloc o2).cell; have e_g2 := fun o => (g2.alloc o).free
  have hz1 := B.size
  go_wp2_with fail
  refine (CS.out _ (H.out.s.below B)).mono ?_
  rintro e wa2 ⟨ys, rfl, oS, b⟩
  try clear c_g1 f_g1 a_g1 d_g1 e_g1
  replace g1 := g1.below b; have c_g1 := g1.cell; have f_g1 := g1.free; have a_g1 := fun o => (g1.alloc o).cell; have d_g1 := fun o o2 => ((g1.alloc o).alloc o2).cell; have e_g1 := fun o => (g1.alloc o).free; try clear c_g2 f_g2 a_g2 d_g2 e_g2
  replace g2 := g2.below b; have c_g2 := g2.cell; have f_g2 := g2.free; have a_g2 := fun o => (g2.alloc o).cell; have d_g2 := fun o o2 => ((g2.alloc o).alloc o2).cell; have e_g2 := fun o => (g2.alloc o).free; replace B := B.trans (b.mono B.size); clear b
  obtain ⟨yA, yn, yc, rfl⟩ : ∃ A n c, ys = .slice A n c := by obtain ⟨A, c, e⟩ := own_form' oS; exact ⟨A, _, c, e⟩
  have hq1 := g1.lt; have hq2 := g2.lt; have hp0 := B.size
  replace oS : OwnS _ w.heap.size 46 _ m.slots := own_mono oS hz1
  go_upto_region 2 with (fail)
  refine wp_gen (fun Wv => Bx Wv (wa2.heap.size) (85) (#[.slice none 0 0, .slice none 0 0, .slice yA yn yc]) ∧ Below wa2.heap.size wa2 Wv) ⟨((Bx.at_ (by simp))), ((Below.refl _ wa2).alloc (by simp <;> omega) _)⟩ ?_
  rintro wa3 ⟨g3, b⟩
  try clear c_g1 f_g1 a_g1 d_g1 e_g1
  replace g1 := g1.below b; have c_g1 := g1.cell; have f_g1 := g1.free; have a_g1 := fun o => (g1.alloc o).cell; have d_g1 := fun o o2 => ((g1.alloc o).alloc o2).cell; have e_g1 := fun o => (g1.alloc o).free; try clear c_g2 f_g2 a_g2 d_g2 e_g2
  replace g2 := g2.below b; have c_g2 := g2.cell; have f_g2 := g2.free; have a_g2 := fun o => (g2.alloc o).cell; have d_g2 := fun o o2 => ((g2.alloc o).alloc o2).cell; have e_g2 := fun o => (g2.alloc o).free; replace oS := oS.below b; replace B := B.trans (b.mono B.size); clear b
  have c_g3 := g3.cell; have f_g3 := g3.free; have a_g3 := fun o => (g3.alloc o).cell; have d_g3 := fun o o2 => ((g3.alloc o).alloc o2).cell; have e_g3 := fun o => (g3.alloc o).free
  generalize wa2.heap.size = p at *
  have HB := Lib.hid B; have HG := Lib.hid (And.intro g1 (And.intro g2 (And.intro g3 oS)))
  clear B g1 g2 g3 oS c_g1 c_g2 f_g1 f_g2 a_g1 a_g2 d_g1 d_g2 e_g1 e_g2 c_g3 f_g3 a_g3 d_g3 e_g3
  have hwa := HG.out.1.cell
  go_wp2
  clear hwa
  go_loopg [15] NT (fun g i wr => ∃ j : Nat, j ≤ NT ∧ g = NT - j ∧ i = .int .i64 j ∧ Hid (∃ xt, OwnT wr w.heap.size xt (m.types.take j) ∧ Bx wr w.heap.size 85 #[tv, ov, sv] ∧ Bx wr (w.heap.size + 1) 85 #[.slice none 0 0, .slice none 0 0, .slice none 0 0] ∧ Bx wr p 85 #[xt, .slice none 0 0, .slice yA yn yc] ∧ OwnS wr w.heap.size 46 (.slice yA yn yc) m.slots ∧ Below w.heap.size w wr))
  case atStart => exact ⟨0, by omega, by omega, rfl, Lib.hid ⟨_, OwnT.nil _ _, HG.out.1, HG.out.2.1, HG.out.2.2.1, HG.out.2.2.2, HB.out⟩⟩
  case round =>
    clear HG HB
    obtain ⟨j, hj, rfl, rfl, hh⟩ := hrel
    by_cases hlt : j < NT
    · obtain ⟨xt, oT, q1, q2, q3, oS, B⟩ := hh.out
      obtain ⟨ad, x, t, ix, m0, ht, hby⟩ := (H.out.t.below B).at_ (k := j) (by have := HNT.out; omega)
      have htl : t.length ≤ 20 := S4.out t (List.mem_of_getElem? ht.out)
      have CB := Lib.hid (fun w h => CloneB_any x t (by omega) w h)
      obtain ⟨vs, z1, z2, z4⟩ := oT
      have hB := B.size
      have htk : (m.types.take j).length = j := by rw [List.length_take]; have := HNT.out; omega
      go_upto_region 5 with (fail)
      have HT := Lib.hid ht; have HQ := Lib.hid (And.intro q1 (And.intro q2 (And.intro q3 (And.intro oS (And.intro B (And.intro z1 (And.intro z2 z4))))))) 
      have c3 := q3.cell
      refine wp_region_G (val := GCopy.y) (V := fun g => OwnB g.W1 wr.heap.size 5 g.y t ∧ Below wr.heap.size wr g.W1 ∧ (Builtin.append_ #[70, 70] 70 #[xt, .slice (some ⟨g.W1.heap.size, 0, none⟩) 1 1]).run Try.prog (g.W1.alloc (.cells #[g.y] 28)) = .ok g.v g.W3 ∧
          g.W3.ownsRow w.heap.size 28 1 g.v (j + 1) (vs ++ [g.y]) ∧ (g.W1.alloc (.cells #[g.y] 28)).grownBy g.W3 xt.ownBlock)
        (F := fun g => FL [3, 4, 5, 7] (wsT wr p g) 1 2) [1, 3, 4, 5, 7] 3 ⟨undef, wr, undef, wr⟩ 111 #[x] (fun g => FL.dep) (by kernel_rfl) (by kernel_rfl) (by kernel_rfl) (fun g g' φ W hφ hF => FL.agree (Ws := wsT wr p g) (Ws' := wsT wr p g') (k0 := 3) rfl rfl hφ hF) FL.start (by decide) ?_ ?_
      · intro φ W hφ hF
        obtain ⟨rfl, _⟩ := FL.step (i := 0) rfl (by decide) hF hφ (by intro p hp; omega) (by omega)
        refine (CB.out wr.drew hby.out).mono ?_
        rintro e W1 ⟨y, rfl, oy, b1⟩
        have b1' : Below wr.heap.size wr W1 := (Below.refl _ wr).drew.trans b1
        have hz := b1'.size
        obtain ⟨v, W3, r1, r2, r3⟩ := run_append_rd (P := Try.prog) (w := W1.alloc (.cells #[y] 28)) (ty := 70) (B := w.heap.size) Try.underlying70 info_bytes rfl (by omega) (own_below z2 (b1'.alloc hz _)) lit_rd (by intro u hu; simp at hu; subst hu; exact (OwnB.rd oy).oneCell) (by omega) (by omega) (by simp; omega)
        rw [htk] at r2
        have hF' := FL.agree (Ws := wsT wr p ⟨undef, wr, undef, wr⟩) (Ws' := wsT wr p ⟨y, W1, v, W3⟩) (k0 := 3) rfl rfl hφ hF
        exact ⟨⟨y, W1, v, W3⟩, ⟨oy, b1', r1, r2, r3⟩, rfl, (FL.step (i := 0) rfl (by decide) hF' hφ (by intro p hp; omega) (by omega)).2⟩
      · rintro ⟨y, W1, v, W3⟩ ⟨oy, b1, r1, r2, r3⟩
        dsimp only at oy b1 r1 r2 r3 ⊢
        obtain ⟨q1, q2, q3, oS, B, z1, z2, z4⟩ := HQ.out
        have MM := Lib.hid (copyT_mem (t := t) (a := w.heap.size) (b := w.heap.size + 1) (p := p) z1 z2 z4 oy b1 r2 r3 q1 q2 q3 oS B hB (by omega) (by omega) (by omega) (Nat.le_refl _))
        obtain ⟨yyA, yyn, yyc, rfl⟩ : ∃ A n c, y = .slice A n c := by obtain ⟨A, c, e⟩ := own_form' oy; exact ⟨A, _, c, e⟩
        obtain ⟨vA, vn, vc, rfl⟩ : ∃ A n c, v = .slice A n c := by obtain ⟨A, c, e⟩ := own_form' r2; exact ⟨A, _, c, e⟩
        have b1c := (q3.below b1).cell 0; have b2c := ((q3.below b1).alloc (.cells #[.slice yyA yyn yyc] 28)).cell 0
        have b0c := (q3.below (Below.refl _ wr).drew).cell 0
        haveI : Nonempty (FXN (FL [3, 4, 5, 7] (wsT wr p ⟨.slice yyA yyn yyc, W1, .slice vA vn vc, W3⟩) 1 2)) := ⟨⟨_, _, FL.start⟩⟩
        refine wpG_read FL.dep rfl (by decide) (by decide) ?_; go_big_quiet_step (fail); refine wpQuiet_nil ?_
        refine wpG_step FL.dep (by decide) rfl (by rfl) (v := xt) [] rfl (fun f W hF h0 _ => ?_) ?_
        · obtain ⟨⟨d, hd, hd2, rfl⟩, hF'⟩ := FL.read (by decide) hF h0
          refine ⟨_, ?_, hF'⟩
          have hc : (wsT wr p ⟨.slice yyA yyn yyc, W1, .slice vA vn vc, W3⟩ d).cell? ⟨p, 0, none⟩ = some xt := by
            rcases d with _ | _ | _ | d
            · exact b0c
            · exact b1c
            · exact b2c
            · omega
          simp [execOp, go_sem, hc]
        simp only [Act.put, List.setIfInBounds_toArray, List.set_cons_zero, List.set_cons_succ]
        refine wpG_read FL.dep rfl (by decide) (by decide) ?_; go_big_quiet_step (fail); refine wpQuiet_nil ?_
        refine wpG_call #[x] rfl (by simp [Act.eval]) (enter_CloneB x) ?_
        simp only [Act.put, List.setIfInBounds_toArray, List.set_cons_zero, List.set_cons_succ]
        refine wpG_step FL.dep (by decide) rfl (by rfl) (v := .slice (some ⟨W1.heap.size, 0, none⟩) 1 1) [3] (by kernel_rfl) (fun f W hF h0 h1 => ?_) ?_
        · obtain ⟨rfl, h2⟩ := FL.step (i := 1) rfl (by decide) hF h0 (FL.prev (p := 0) (q := 3) rfl (h1 3 (by simp))) (by omega)
          refine ⟨_, ?_, h2⟩
          simp [execOp, go_sem, wsT]
        simp only [Act.put, List.setIfInBounds_toArray, List.set_cons_zero, List.set_cons_succ]
        refine wpG_step FL.dep (by decide) rfl (by rfl) (v := .slice vA vn vc) [4, 1] (by kernel_rfl) (fun f W hF h0 h1 => ?_) ?_
        · obtain ⟨rfl, h2⟩ := FL.step (i := 2) rfl (by decide) hF h0 (FL.prev (p := 1) (q := 4) rfl (h1 4 (by simp))) (fun _ => h1 1 (by simp))
          exact ⟨_, by simp [execOp, resolve, invoke, builtin, Act.eval, wsT, r1], h2⟩
        simp only [Act.put, List.setIfInBounds_toArray, List.set_cons_zero, List.set_cons_succ]
        refine wpG_read FL.dep rfl (by decide) (by decide) ?_; go_big_quiet_step (fail); refine wpQuiet_nil ?_
        refine wpG_store FL.dep (by decide) rfl 70 (.tmp 25) (.tmp 24) rfl (by rfl) (p := .pointer (some ⟨p, 0, none⟩)) (u := .slice vA vn vc) (by rfl) (by rfl) [5] (by kernel_rfl) (fun f W hF h0 h1 => ?_) ?_
        · obtain ⟨rfl, h2⟩ := FL.step (i := 3) rfl (by decide) hF h0 (FL.prev (p := 2) (q := 5) rfl (h1 5 (by simp))) (by omega)
          refine ⟨_, ?_, h2⟩
          have hc := MM.out.1.1; have hf := MM.out.1.2
          simp [go_sem, wsT, hc, hf]
        refine wpG_nil ?_
        intro w' hw'
        obtain rfl := FL.done hw'
        have HM := Lib.hid (MM.out.2)
        clear this MM HQ q1 q2 q3 oS B z1 z2 z4 b1c b2c b0c hw' r1 r2 r3 oy b1 c3
        go_wp2
        go_roundg (NT - (j + 1))
        case measure => omega
        case rel =>
          refine ⟨j + 1, by omega, rfl, by go_num, Lib.hid ⟨_, ?_, HM.out.2⟩⟩
          have := HM.out.1
          rwa [List.take_add_one, HT.out.out]
    · obtain rfl : j = NT := by omega
      obtain ⟨xt, oT, q1, q2, q3, oS, B⟩ := hh.out
      rw [List.take_of_length_le (by have := HNT.out; omega)] at oT
      clear hh
      have hwa := q1.cell
      have HG := Lib.hid (And.intro q1 (And.intro q2 (And.intro q3 (And.intro oT oS)))); have HB := Lib.hid B
      clear q1 q2 q3 oT oS B
      go_wp2
      clear hwa
      go_loopg [30] NO (fun g i wr => ∃ k : Nat, k ≤ NO ∧ g = NO - k ∧ i = .int .i64 k ∧ Hid (∃ ot, OwnO wr w.heap.size ot (m.objs.take k) ∧ Bx wr w.heap.size 85 #[tv, ov, sv] ∧ Bx wr (w.heap.size + 1) 85 #[.slice none 0 0, .slice none 0 0, .slice none 0 0] ∧ Bx wr p 85 #[xt, ot, .slice yA yn yc] ∧ OwnT wr w.heap.size xt m.types ∧ OwnS wr w.heap.size 46 (.slice yA yn yc) m.slots ∧ Below w.heap.size w wr))
      case atStart => exact ⟨0, by omega, by omega, rfl, Lib.hid ⟨_, OwnO.nil _ _, HG.out.1, HG.out.2.1, HG.out.2.2.1, HG.out.2.2.2.1, HG.out.2.2.2.2, HB.out⟩⟩
      case round =>
        clear HG HB
        obtain ⟨k, hk, rfl, rfl, hh⟩ := hrel
        by_cases hltk : k < NO
        · obtain ⟨ot, oO, q1, q2, q3, oT, oS, B⟩ := hh.out
          obtain ⟨ob, oq, x, o, ix, m0, m1, ho, hx, hob⟩ := (H.out.o.below B).at_ (k := k) (by have := HNO.out; omega)
          have hol : o.fs.length ≤ 20 := S5.out o (List.mem_of_getElem? ho.out)
          have CW := Lib.hid (fun w h => CloneW_any x o.fs (by omega) w h)
          have hxx := hx.out
          have hlt0 : ot.ownBlock = none ∨ ot.ownBlock ≠ some wr.heap.size := by
            obtain ⟨vs, z1, z2, _⟩ := oO
            cases hob : ot.ownBlock with
            | none => exact .inl rfl
            | some g => have := (z2.lt g hob).2; exact .inr (by simp; omega)
          have hpl := q3.lt
          have htk : (m.objs.take k).length = k := by rw [List.length_take]; have := HNO.out; omega
          obtain ⟨xA, xn, xc, rfl⟩ : ∃ A n c, x = .slice A n c := by obtain ⟨A, c, e, _⟩ := hxx; exact ⟨A, _, c, e⟩
          clear hh hx
          go_upto_region 10 with (fail)
          refine wp_gen (fun Wv => Bx Wv (wr.heap.size) (135) (#[.int .i64 o.ty, .slice xA xn xc]) ∧ Below wr.heap.size wr Wv) ⟨((Bx.at_ (by simp))), ((Below.refl _ wr).alloc (by simp <;> omega) _)⟩ ?_
          rintro wa1 ⟨g4, b⟩
          replace q1 := q1.below b; replace q2 := q2.below b; replace q3 := q3.below b; replace oT := oT.below b; replace oS := oS.below b; replace oO := oO.below b; replace hxx := hxx.below b; replace B := B.trans (b.mono B.size); clear b
          have c_g4 := g4.cell; have f_g4 := g4.free; have a_g4 := fun o => (g4.alloc o).cell; have d_g4 := fun o o2 => ((g4.alloc o).alloc o2).cell; have e_g4 := fun o => (g4.alloc o).free
          clear m0 m1
          obtain ⟨vs, z1, z2, z4, z5⟩ := oO
          have hB := B.size
          have HT := Lib.hid ho; have HQ := Lib.hid (And.intro q1 (And.intro q2 (And.intro q3 (And.intro oT (And.intro oS (And.intro B (And.intro z1 (And.intro z2 (And.intro z4 z5)))))))))
          clear c_g4 f_g4 a_g4 d_g4 e_g4
          refine wp_region_G (val := GCopy.y) (V := fun g => OwnW g.W1 wa1.heap.size 24 g.y o.fs ∧ Below wa1.heap.size wa1 g.W1 ∧ (Builtin.append_ #[83, 83] 83 #[ot, .slice (some ⟨g.W1.heap.size, 0, none⟩) 1 1]).run Try.prog (g.W1.alloc (.cells #[i64 o.ty, g.y] 135)) = .ok g.v g.W3 ∧
              g.W3.ownsRow w.heap.size 135 2 g.v (k + 1) (obC (m.objs.take k) vs ++ [i64 o.ty, g.y]) ∧ (g.W1.alloc (.cells #[i64 o.ty, g.y] 135)).grownBy g.W3 ot.ownBlock)
            (F := fun g => FL [6, 7, 8, 9, 11] (wsO wa1 p o.ty g) 1 3) [1, 6, 7, 8, 9, 11] 6 ⟨undef, wr, undef, wr⟩ 78 #[.slice xA xn xc] (fun g => FL.dep) (by kernel_rfl) (by kernel_rfl) (by kernel_rfl) (fun g g' φ W hφ hF => FL.agree (Ws := wsO wa1 p o.ty g) (Ws' := wsO wa1 p o.ty g') (k0 := 6) rfl rfl hφ hF) FL.start (by decide) ?_ ?_
          · intro φ W hφ hF
            obtain ⟨rfl, _⟩ := FL.step (i := 0) rfl (by decide) hF hφ (by intro p hp; omega) (by omega)
            refine (CW.out wa1.drew hxx).mono ?_
            rintro e W1 ⟨y, rfl, oy, b1⟩
            have b1' : Below wa1.heap.size wa1 W1 := (Below.refl _ wa1).drew.trans b1
            have hz := b1'.size
            obtain ⟨v, W3, r1, r2, r3⟩ := run_append_rd (P := Try.prog) (w := W1.alloc (.cells #[i64 o.ty, y] 135)) (ty := 83) (B := w.heap.size) Try.underlying83 info_obj rfl (by omega) (own_below z2 (b1'.alloc hz _)) lit_obj (one_obj (OwnW.rd oy).oneCell) (by omega) (by omega) (by simp; omega)
            rw [htk] at r2
            have hF' := FL.agree (Ws := wsO wa1 p o.ty ⟨undef, wr, undef, wr⟩) (Ws' := wsO wa1 p o.ty ⟨y, W1, v, W3⟩) (k0 := 6) rfl rfl hφ hF
            exact ⟨⟨y, W1, v, W3⟩, ⟨oy, b1', r1, r2, r3⟩, rfl, (FL.step (i := 0) rfl (by decide) hF' hφ (by intro p hp; omega) (by omega)).2⟩
          · rintro ⟨y, W1, v, W3⟩ ⟨oy, b1, r1, r2, r3⟩
            dsimp only at oy b1 r1 r2 r3 ⊢
            have MM := Lib.hid (copyO_mem (o := o) (a := w.heap.size) (b := w.heap.size + 1) (p := p) z1 z2 z4 z5 oy b1 r2 r3 q1 q2 q3 oT oS B hB (by omega) (by omega) (by omega) g4 hlt0 (by omega))
            obtain ⟨yyA, yyn, yyc, rfl⟩ : ∃ A n c, y = .slice A n c := by obtain ⟨A, c, e⟩ := own_form' oy; exact ⟨A, _, c, e⟩
            obtain ⟨vA, vn, vc, rfl⟩ : ∃ A n c, v = .slice A n c := by obtain ⟨A, c, e⟩ := own_form' r2; exact ⟨A, _, c, e⟩
            have b1c := (q3.below b1).cell 1; have b2c := ((q3.below b1).alloc (.cells #[i64 o.ty, .slice yyA yyn yyc] 135)).cell 1
            have b0c := (q3.below (Below.refl _ wa1).drew).cell 1
            have c4 := fun x : FXN (FL [6, 7, 8, 9, 11] (wsO wa1 p o.ty ⟨.slice yyA yyn yyc, W1, .slice vA vn vc, W3⟩) 1 3) => (FL.all (p := fun W => Bx W wr.heap.size 135 #[.int .i64 o.ty, .slice xA xn xc]) (by
              intro d hd
              rcases d with _ | _ | _ | _ | _ | d
              · exact g4.below (Below.refl _ wa1).drew
              · exact g4.below b1
              · exact g4.below b1
              · exact (g4.below b1).alloc _
              · exact MM.out.2.2.2.2.2.2.2.2.1
              · exact MM.out.2.2.2.2.2.2.2.2.2) x).cell
            haveI : Nonempty (FXN (FL [6, 7, 8, 9, 11] (wsO wa1 p o.ty ⟨.slice yyA yyn yyc, W1, .slice vA vn vc, W3⟩) 1 3)) := ⟨⟨_, _, FL.start⟩⟩
            refine wpG_read FL.dep rfl (by decide) (by decide) ?_; go_big_quiet_step (fail); refine wpQuiet_nil ?_
            refine wpG_step FL.dep (by decide) rfl (by rfl) (v := ot) [] rfl (fun f W hF h0 _ => ?_) ?_
            · obtain ⟨⟨d, hd, hd2, rfl⟩, hF'⟩ := FL.read (by decide) hF h0
              refine ⟨_, ?_, hF'⟩
              have hc : (wsO wa1 p o.ty ⟨.slice yyA yyn yyc, W1, .slice vA vn vc, W3⟩ d).cell? ⟨p, 1, none⟩ = some ot := by
                rcases d with _ | _ | _ | _ | d
                · exact b0c
                · exact b1c
                · exact b1c
                · exact b2c
                · omega
              simp [execOp, go_sem, hc]
            simp only [Act.put, List.setIfInBounds_toArray, List.set_cons_zero, List.set_cons_succ]
            iterate 4 (refine wpG_read FL.dep rfl (by decide) (by decide) ?_; go_big_quiet_step (fail); refine wpQuiet_nil ?_)
            refine wpG_call #[.slice xA xn xc] rfl (by simp [Act.eval]) (enter_CloneW _) ?_
            simp only [Act.put, List.setIfInBounds_toArray, List.set_cons_zero, List.set_cons_succ]
            refine wpG_step FL.dep (by decide) rfl (by rfl) (v := .agg #[i64 o.ty, .slice yyA yyn yyc]) [6] (by kernel_rfl) (fun f W hF h0 h1 => ?_) ?_
            · obtain ⟨rfl, h2⟩ := FL.step (i := 1) rfl (by decide) hF h0 (FL.prev (p := 0) (q := 6) rfl (h1 6 (by simp))) (by omega)
              refine ⟨_, ?_, h2⟩
              simp [execOp, go_sem, wsO, i64]
            simp only [Act.put, List.setIfInBounds_toArray, List.set_cons_zero, List.set_cons_succ]
            refine wpG_step FL.dep (by decide) rfl (by rfl) (v := .slice (some ⟨W1.heap.size, 0, none⟩) 1 1) [7] (by kernel_rfl) (fun f W hF h0 h1 => ?_) ?_
            · obtain ⟨rfl, h2⟩ := FL.step (i := 2) rfl (by decide) hF h0 (FL.prev (p := 1) (q := 7) rfl (h1 7 (by simp))) (by omega)
              refine ⟨_, ?_, h2⟩
              simp [execOp, go_sem, wsO, i64]
            simp only [Act.put, List.setIfInBounds_toArray, List.set_cons_zero, List.set_cons_succ]
            refine wpG_step FL.dep (by decide) rfl (by rfl) (v := .slice vA vn vc) [8, 1] (by kernel_rfl) (fun f W hF h0 h1 => ?_) ?_
            · obtain ⟨rfl, h2⟩ := FL.step (i := 3) rfl (by decide) hF h0 (FL.prev (p := 2) (q := 8) rfl (h1 8 (by simp))) (fun _ => h1 1 (by simp))
              exact ⟨_, by simp [execOp, resolve, invoke, builtin, Act.eval, wsO, r1], h2⟩
            simp only [Act.put, List.setIfInBounds_toArray, List.set_cons_zero, List.set_cons_succ]
            refine wpG_read FL.dep rfl (by decide) (by decide) ?_; go_big_quiet_step (fail); refine wpQuiet_nil ?_
            refine wpG_store FL.dep (by decide) rfl 83 (.tmp 44) (.tmp 43) rfl (by rfl) (p := .pointer (some ⟨p, 1, none⟩)) (u := .slice vA vn vc) (by rfl) (by rfl) [9] (by kernel_rfl) (fun f W hF h0 h1 => ?_) ?_
            · obtain ⟨rfl, h2⟩ := FL.step (i := 4) rfl (by decide) hF h0 (FL.prev (p := 3) (q := 9) rfl (h1 9 (by simp))) (by omega)
              refine ⟨_, ?_, h2⟩
              have hc := MM.out.1.1; have hf := MM.out.1.2
              simp [go_sem, wsO, hc, hf]
            refine wpG_nil ?_
            intro w' hw'
            obtain rfl := FL.done hw'
            have HM := Lib.hid (MM.out.2)
            clear this MM HQ q1 q2 q3 oT oS B z1 z2 z4 z5 b1c b2c b0c hw' r1 r2 r3 oy b1 c4 g4 hxx
            go_wp2
            go_roundg (NO - (k + 1))
            case measure => omega
            case rel =>
              obtain ⟨k1, k2, k3, k4, k5, k6, k7, _⟩ := HM.out
              refine ⟨k + 1, by omega, rfl, by go_num, Lib.hid ⟨_, ?_, k2, k3, k4, k5, k6, k7⟩⟩
              rwa [List.take_add_one, HT.out.out]
        · obtain rfl : k = NO := by omega
          obtain ⟨ot, oO, q1, q2, q3, oT, oS, B⟩ := hh.out
          rw [List.take_of_length_le (by have := HNO.out; omega)] at oO
          obtain ⟨oA, on, oc, rfl⟩ : ∃ A n c, ot = .slice A n c := by obtain ⟨vs, _, z2, _⟩ := oO; obtain ⟨A, c, e⟩ := own_form' z2; exact ⟨A, _, c, e⟩
          obtain ⟨xA, xn, xc, rfl⟩ : ∃ A n c, xt = .slice A n c := by obtain ⟨vs, _, z2, _⟩ := oT; obtain ⟨A, c, e⟩ := own_form' z2; exact ⟨A, _, c, e⟩
          have c2 := q2.cell; have c3 := q3.cell; have f2 := q2.free
          have OO := Lib.hid (And.intro oT (And.intro oO oS)); have HB := Lib.hid B
          clear hh q1 oT oO oS B
          go_wp2
          refine bodyPost_ret (v := .agg #[.slice xA xn xc, .slice oA on oc, .slice yA yn yc]) (by simp [results, Try.results80, go_sem, c2, c3, f2]) rfl ?_
          refine ⟨_, _, _, rfl, OwnM.set3 ⟨OO.out.1, OO.out.2.1, OO.out.2.2⟩ q2, ?_⟩
          have B := HB.out
          exact ((B.setCell (p := ⟨w.heap.size + 1, 0, none⟩) (by simp) _).setCell (p := ⟨w.heap.size + 1, 1, none⟩) (by simp) _).setCell (p := ⟨w.heap.size + 1, 2, none⟩) (by simp) _
end Go.Proofs.Ytmbokdnndlnjkaa
