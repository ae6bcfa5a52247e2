/- Contracts of the two copies of the superblock: the reference's View, Heal, lists of entries. -/
import Derived.Test.YtcfohfphhpmmdaaC07c
set_option linter.unusedVariables false
set_option linter.unusedSimpArgs false
namespace Go.Proofs.Ytcfohfphhpmmdaa
open Go.RowKit L02 L05 L06 L07

/-- entries: two cells each -/
def eC (E : List (Int × UInt64)) : List Value := E.flatMap fun e => [.int .i64 e.1, .int .u64 e.2.toNat]
theorem eC_len (E : List (Int × UInt64)) : (eC E).length = E.length * 2 := by
  induction E with
  | nil => rfl
  | cons h H ih => simp only [eC, List.flatMap_cons, List.length_append, List.length_cons, List.length_nil] at *; omega
theorem eC_get : ∀ (E : List (Int × UInt64)) (k : Nat) (e : Int × UInt64), E[k]? = some e → (eC E)[k * 2]? = some (.int .i64 e.1) ∧ (eC E)[k * 2 + 1]? = some (.int .u64 e.2.toNat)
  | [], k, h, hk => by simp at hk
  | x :: H, 0, h, hk => by simp at hk; subst hk; exact ⟨rfl, rfl⟩
  | x :: H, k + 1, h, hk => by
    have := eC_get H k h (by simpa using hk)
    rw [show (k + 1) * 2 = k * 2 + 1 + 1 by omega]
    simpa [eC] using this
theorem eC_snoc (E : List (Int × UInt64)) (a : Int) (b : UInt64) : eC E ++ [.int .i64 a, .int .u64 b.toNat] = eC (E ++ [(a, b)]) := by simp [eC, List.flatMap_append]
def Ents (w : World) (v : Value) (E : List (Int × UInt64)) : Prop := Rd w 2 v E.length (eC E)
def OwnE (w : World) (base : Nat) (v : Value) (E : List (Int × UInt64)) : Prop := w.ownsRow base 52 2 v E.length (eC E)
theorem OwnE.rd {w : World} {base : Nat} {v : Value} {E : List (Int × UInt64)} (h : OwnE w base v E) : Ents w v E := Rd.of_own h
theorem Ents.below {w w' : World} {v : Value} {E : List (Int × UInt64)} (h : Ents w v E) (hb : Below w.heap.size w w') : Ents w' v E := Rd.below h hb
theorem OwnE.below {w w' : World} {base : Nat} {v : Value} {E : List (Int × UInt64)} (h : OwnE w base v E) (hb : Below w.heap.size w w') : OwnE w' base v E := own_below h hb
theorem OwnE.nil (w : World) (base : Nat) : OwnE w base (.slice none 0 0) [] := World.ownsRow_nil w base _ 2
theorem OwnE.of {w : World} {B n : Nat} {v : Value} {xs : List Value} {E : List (Int × UInt64)} (h : w.ownsRow B 52 2 v n xs) (hx : xs = eC E) : OwnE w B v E := by
  subst hx
  have hn : n = E.length := by have := h.1; rw [eC_len] at this; omega
  subst hn; exact h
theorem size_ent : (Try.prog.info? 52).map (·.size) = some 2 := by kernel_rfl
theorem info_ent : (Try.prog.info? 52).map (fun i => (i.zero, i.size, i.bytes)) = some (some (.agg #[.int .i64 0, .int .u64 0]), 2, 16) := by kernel_rfl
theorem Ents.at_ {w : World} {v : Value} {E : List (Int × UInt64)} (h : Ents w v E) {k : Nat} (hk : k < E.length) :
    ∃ b o a x, (∀ W, (Instr.indexAt 37 v (.int .i64 (k : Int))).run Try.prog W = .ok (.pointer (some ⟨b, o, none⟩)) W) ∧ w.cell? ⟨b, o, none⟩ = some (.int .i64 a) ∧ w.cell? ⟨b, o + 1, none⟩ = some (.int .u64 (UInt64.toNat x)) ∧ Hid (E[k]? = some (a, x)) := by
  have hix := fun W => Rd.ixN h Try.underlying37 size_ent hk W
  obtain ⟨b, o, c, rfl, hb, hc, hcell⟩ := Rd.form h (by omega)
  have hs : E[k]? = some (E[k].1, E[k].2) := List.getElem?_eq_getElem hk
  have t := eC_get E k _ hs
  exact ⟨b, o + k * 2, E[k].1, E[k].2, fun W => hix W, hcell _ _ t.1, hcell _ _ t.2, Lib.hid hs⟩
theorem lit_ent {w : World} {e : TypeId} {n : Nat} (a : Int) (x : UInt64) (hn : w.heap.size = n) : Rd (w.alloc (.cells #[.int .i64 a, .int .u64 x.toNat] e)) 2 (.slice (some ⟨n, 0, none⟩) 1 1) 1 [.int .i64 a, .int .u64 x.toNat] := by
  subst hn; exact lit_rdK (n := 1) (sz := 2) rfl (by omega)
theorem ent_neq (a c : Int) (b d : UInt64) (r : Bool) (hr : r = !(a == c && b == d)) (W : World) : (binOp .neq 52 (.agg #[.int .i64 a, .int .u64 b.toNat]) (.agg #[.int .i64 c, .int .u64 d.toNat])).run Try.prog W = .ok (.bool r) W := by
  subst hr
  have e : (b == d) = ((b.toNat : Int) == (d.toNat : Int)) := by
    rw [Bool.eq_iff_iff, beq_iff_eq, beq_iff_eq]
    exact ⟨fun h => by rw [h], fun h => UInt64.toNat_inj.1 (by omega)⟩
  rw [e]
  cases h : (a == c) <;> cases h2 : ((b.toNat : Int) == (d.toNat : Int)) <;> simp [go_sem, h, h2]

set_option maxHeartbeats 2000000 in
theorem TViewR_any (v : Value) (m : List UInt64) (V : List UInt64) (r : Int) (hV : V = view m) (hr : r = rErr m) (w : World) (h : Words w v m) : Calls Try.prog 14 #[v] w (RetWE w V r) := by
  have B : Below w.heap.size w w := Below.refl _ _
  obtain ⟨W, hW⟩ : ∃ x, x = sW m := ⟨_, rfl⟩
  obtain ⟨T, hT⟩ : ∃ x, x = sT m := ⟨_, rfl⟩
  obtain ⟨b0, hb0⟩ : ∃ x, x = is0 m := ⟨_, rfl⟩
  obtain ⟨b1, hb1⟩ : ∃ x, x = is1 m := ⟨_, rfl⟩
  have RT := Lib.hid (fun w h => TReadR_any v m W T b0 b1 r hW hT hb0 hb1 hr w h)
  have H := Lib.hid h
  by_cases h0 : rErr m = 0
  rotate_left
  · have hne : (r != 0) = true := by rw [bne_iff_ne, hr]; exact h0
    have hV0 : V = [] := by rw [hV]; exact (heals_no h0).1
    clear hV hr h hW hT hb0 hb1 h0
    subst hV0
    go_enter Try.func14, Try.ntmps14
    go_wp2_with fail
    refine (RT.out _ (H.out.below B)).mono ?_
    rintro e wa1 ⟨rfl, b⟩
    replace B := B.trans (b.mono B.size); clear b
    go_wp2
    go_ret2
    exact ⟨_, rfl, OwnW.nil _ _ _, (B.alloc B.size _).alloc (by have := B.size; simp; omega) _⟩
  · obtain ⟨ho, hok⟩ := one_words h0
    have hn := (rErr_ok h0).1
    rw [← hW, ← hT] at ho hok
    rw [h0] at hr
    subst hr
    have WT := Lib.hid (fun w => Written_any W T w hok)
    have hol := one_len h0
    have hlen : 256 ≤ m.length ∧ m.length ≤ 2048 := by have := hn.1; have := hn.2.1; omega
    rw [view_ok h0] at hV
    rw [← ho] at WT
    obtain ⟨L, hL⟩ : ∃ L, L = one m := ⟨_, rfl⟩
    rw [← hL] at hol hV WT
    obtain ⟨dv, sl, hdv⟩ := h.cutFrom (P := Try.prog) Try.underlying22 one_u64 (lo := 16) (by omega) (by omega)
    obtain ⟨D, hD⟩ : ∃ D, D = m.drop 16 := ⟨_, rfl⟩
    have hdl : D.length ≤ 2048 := by rw [hD]; simp; omega
    replace hdv : Words w dv D := by rw [hD]; exact hdv
    rw [← hD] at hV
    clear hD
    have HV := Lib.hid hV; have HD := Lib.hid hdv
    clear hV h hW hT hb0 hb1 h0 ho hok hn hL hlen hdv
    go_enter Try.func14, Try.ntmps14
    go_wp2_with fail
    refine (RT.out _ (H.out.below B)).mono ?_
    rintro e wa1 ⟨rfl, b⟩
    replace B := B.trans (b.mono B.size); clear b
    go_upto_region 2 with (fail)
    refine wp_gen (fun Wv => Bx Wv (wa1.heap.size) (26) (#[.int .i64 W, .int .i64 T]) ∧ Below wa1.heap.size wa1 Wv) ⟨(((Bx.at_ (by simp)).alloc _)), (((Below.refl _ wa1).alloc (by simp <;> omega) _).alloc (by simp <;> omega) _)⟩ ?_
    rintro wa2 ⟨g4, b⟩
    replace B := B.trans (b.mono B.size); clear b
    have c_g4 := g4.cell; have f_g4 := g4.free; have a_g4 := fun o => (g4.alloc o).cell; have d_g4 := fun o o2 => ((g4.alloc o).alloc o2).cell; have e_g4 := fun o => (g4.alloc o).free
    go_wp2_with fail
    refine (WT.out _).mono ?_
    rintro e wx ⟨x, rfl, o, b⟩
    have ox := o.rd
    replace B := B.trans (b.mono B.size)
    have B1 : Below wx.heap.size wx wx := Below.refl _ _
    have OX := Lib.hid ox; have HB := Lib.hid B
    clear o b g4 c_g4 f_g4 a_g4 d_g4 e_g4 ox B
    go_wp2_with (at_builtin; first
      | (refine wpList_append (by rfl) rfl rfl rfl Try.underlying22 info_u64 rfl (by omega) (lit0_own (Nat.le_refl _)) (by exact OX.out.alloc _) (one_u64s _) (by omega) (by omega) ((Below.refl _ wx).alloc (Nat.le_refl _) _) (Nat.le_refl _) ?_
         intro v1 w1 o1 b1 g1; have O1 := Lib.hid o1; have BB1 := Lib.hid b1; clear o1 b1 g1)
      | (refine wpList_append (by rfl) rfl rfl rfl Try.underlying22 info_u64 rfl (by omega) (by exact O1.out) (by exact OX.out.below BB1.out) (one_u64s _) (by omega) (by omega) BB1.out (Nat.le_refl _) ?_
         intro v2 w2 o1 b1 g1; have O2 := Lib.hid o1; have BB2 := Lib.hid b1; clear o1 b1 g1)
      | (refine wpList_append (by rfl) rfl rfl rfl Try.underlying22 info_u64 rfl (by omega) (by exact O2.out) (by exact (HD.out.below HB.out).below BB2.out) (one_u64s _) (by omega) (by omega) BB2.out (Nat.le_refl _) ?_
         intro v3 w3 o1 b1 g1; have O3 := Lib.hid o1; have BB3 := Lib.hid b1; clear o1 b1 g1))
    go_ret2
    exact ⟨_, rfl, own_mono (OwnW.of O3.out (by rw [HV.out]; simp)) HB.out.size, HB.out.trans (BB3.out.mono HB.out.size)⟩

def RetEE (w : World) (E : List (Int × UInt64)) (err : Int) (e : Ending) (w' : World) : Prop := ∃ v, e = .returned (.tuple #[v, .int .i64 err]) ∧ OwnE w' w.heap.size v E ∧ Below w.heap.size w w'
def hE (V : List UInt64) (l : List Int) : List (Int × UInt64) := l.map fun i => (i, V.getD i.toNat 0)
theorem hE_len (V : List UInt64) (l : List Int) : (hE V l).length = l.length := List.length_map _
theorem hE_snoc {V : List UInt64} {l : List Int} {k : Nat} {x : UInt64} (h : V[k]? = some x) : hE V l ++ [((k : Int), x)] = hE V (l ++ [(k : Int)]) := by
  simp [hE, List.getD_eq_getElem?_getD, h]
theorem hE_take {V : List UInt64} {l : List Int} {j k : Nat} {x : UInt64} (hj : l[j]? = some (k : Int)) (h : V[k]? = some x) : hE V (l.take j) ++ [((k : Int), x)] = hE V (l.take (j + 1)) := by
  rw [hE_snoc h, List.take_add_one, hj]; rfl

set_option maxRecDepth 100000 in
set_option maxHeartbeats 2000000 in
theorem THeal_any (v : Value) (m : List UInt64) (E : List (Int × UInt64)) (r : Int) (hE' : E = heals m) (hr : r = rErr m) (w : World) (h : Words w v m) : Calls Try.prog 15 #[v] w (RetEE w E r) := by
  have B : Below w.heap.size w w := Below.refl _ _
  obtain ⟨V, hV⟩ : ∃ x, x = view m := ⟨_, rfl⟩
  have VT := Lib.hid (fun w h => TView_any v m V r hV hr w h)
  have H := Lib.hid h
  by_cases h0 : rErr m = 0
  rotate_left
  · have hne : (r != 0) = true := by rw [bne_iff_ne, hr]; exact h0
    have hE0 : E = [] := by rw [hE']; exact (heals_no h0).2.1
    clear hV hr h hE' h0
    subst hE0
    go_enter Try.func15, Try.ntmps15
    go_wp2_with fail
    refine (VT.out _ (H.out.below B)).mono ?_
    rintro e wa1 ⟨x, rfl, o1, b⟩
    replace B := B.trans (b.mono B.size); clear b
    go_wp2
    go_ret2
    exact ⟨_, rfl, OwnE.nil _ _, B⟩
  · have hd := diff_ok h0
    obtain ⟨l, hl⟩ : ∃ l, l = diffs m V := ⟨_, rfl⟩
    obtain ⟨n, hn⟩ : ∃ n, n = l.length := ⟨_, rfl⟩
    have DT := Lib.hid (fun va vb w ha hb => Diff_any va vb m V w ha hb)
    have e1 : diffErr m V = 0 := by rw [hV]; exact hd.1
    have hEE : E = hE V l := by rw [hE', heals, if_pos h0, hl, hV]; rfl
    have hsm : n ≤ 2048 := by
      rw [hn, hl, hV, hd.2]
      have := length_diffsTo m (view m) m.length
      have := (rErr_ok h0).1.2.1
      omega
    have hat : ∀ (j : Nat) (x : Int), l[j]? = some x → ∃ (k : Nat) (y : UInt64), x = (k : Int) ∧ V[k]? = some y := by
      intro j x hj
      have hh : (heals m)[j]? = some (x, (view m).getD x.toNat 0) := by
        rw [heals, if_pos h0, List.getElem?_map, ← hV, ← hl, hj]; rfl
      obtain ⟨_, k, e, _, hk, _⟩ := heals_at h0 hh
      exact ⟨k, _, e, by rw [hV]; exact hk⟩
    rw [h0] at hr
    subst hr
    have E1 := Lib.hid e1; have HL := Lib.hid hl; have HEE := Lib.hid hEE; have HAT := Lib.hid hat; have HN := Lib.hid hn
    clear hV h hE' h0 hd e1 hl hEE hat hn
    go_enter Try.func15, Try.ntmps15
    go_wp2_with fail
    refine (VT.out _ (H.out.below B)).mono ?_
    rintro e wa1 ⟨x, rfl, o1, b⟩
    replace B := B.trans (b.mono B.size); clear b
    go_wp2_with fail
    refine (DT.out _ _ _ (H.out.below B) o1.rd).mono ?_
    rw [E1.out, ← HL.out]
    rintro e wx ⟨y, rfl, o2, b⟩
    replace o1 := o1.below b; replace B := B.trans (b.mono B.size); clear b
    have ly := Rd.len o2.rd Try.underlying47
    rw [← HN.out] at ly
    have B1 : Below wx.heap.size wx wx := Below.refl _ _
    have O1 := Lib.hid o1.rd; have O2 := Lib.hid o2.rd; have HB := Lib.hid B
    clear o1 o2 B
    go_wp2
    go_loopg [7, 26] n (fun g ov i wr => ∃ k : Nat, k ≤ n ∧ g = n - k ∧ i = .int .i64 k ∧ Hid (OwnE wr wx.heap.size ov (hE V (l.take k)) ∧ Below wx.heap.size wx wr))
    case atStart => exact ⟨0, by omega, by omega, rfl, Lib.hid ⟨OwnE.nil _ _, B1⟩⟩
    case round =>
      clear B1
      obtain ⟨k, hk, rfl, rfl, hh⟩ := hrel
      by_cases hlt : k < n
      · have hkl : k < l.length := by have := HN.out; omega
        obtain ⟨ad, c, ix, cx, hc⟩ := (O2.out.below hh.out.2).at_ (P := Try.prog) Try.underlying47 one_int hkl
        obtain ⟨q, yq, rfl, hq⟩ := HAT.out k c hc.out
        have hql : q < V.length := (List.getElem?_eq_some_iff.1 hq).1
        obtain ⟨bd, z, iz, cz, hz⟩ := (O1.out.below hh.out.2).at_ (P := Try.prog) Try.underlying22 one_u64 hql
        obtain rfl : yq = z := by have := hz.out; rw [hq] at this; injection this
        have HT := Lib.hid (hE_take hc.out hq)
        have hll : (hE V (l.take k)).length ≤ 2048 := by rw [hE_len, List.length_take]; omega
        clear hq hc hz
        go_wp2_with (at_builtin; refine wpList_append (by rfl) rfl rfl rfl Try.underlying37 info_ent rfl (by omega) (by exact own_below hh.out.1 ((Below.refl _ _).alloc (Nat.le_refl _) _)) (by exact lit_ent (q : Int) yq (by simp)) (by simp [Value.oneCell']) (by omega) (by omega) (by exact hh.out.2.alloc hh.out.2.size _) (Nat.le_refl _) ?_; intro v1 w3 o3 B3 g3; clear g3)
        have HH := Lib.hid (And.intro (OwnE.of o3 (by rw [eC_snoc, HT.out])) B3)
        clear o3 B3
        go_roundg (n - (k + 1))
        case measure => omega
        case rel => exact ⟨k + 1, by omega, rfl, by go_num, HH⟩
      · obtain rfl : k = n := by omega
        have ⟨o3, B3⟩ := hh.out
        rw [List.take_of_length_le (by have := HN.out; omega), ← HEE.out] at o3
        have O3 := Lib.hid o3; have BB3 := Lib.hid B3; clear o3 B3 hh
        go_wp2
        go_ret2
        exact ⟨_, rfl, own_mono O3.out HB.out.size, HB.out.trans (BB3.out.mono HB.out.size)⟩
end Go.Proofs.Ytcfohfphhpmmdaa
