/- Contracts of the functions that the laws 'R' reach, part 16. No condition. -/
import Derived.Test.YtmbokdnndlnjkaaGreatMRo
set_option linter.unusedVariables false
set_option linter.unusedSimpArgs false
namespace Go.Proofs.YtmbokdnndlnjkaaGreat
open Go.RowKit L01 L02 L05 L06 L07 L13 L14 L15 L16 L18 L19
theorem free_snoc {L : List Hb} {b : Hb} : free (L ++ [b]) = free L ++ (if b.kind = 2 then [b] else []) := by
  rw [free_app]; congr 1
  unfold free
  by_cases h : b.kind = 2
  · rw [if_pos h, List.filter_cons_of_pos (by simpa using h)]; rfl
  · rw [if_neg h, List.filter_cons_of_neg (by simpa using h)]; rfl
set_option maxRecDepth 100000 in
set_option maxHeartbeats 1000000 in
theorem FreeW_any (v : Value) (l : List UInt64) (F : List Hb) (r : Int) (hF : F = freeL l) (hr : r = allErr l) (w : World) (h : Words w v l) :
    Calls Tryz.prog 122 #[v] w fun e w' => ∃ x, e = .returned (.tuple #[x, .int .i64 r]) ∧ OwnK w' w.heap.size x F ∧ Below w.heap.size w w' := by
  have B : Below w.heap.size w w := Below.refl _ _
  have H := Lib.hid h
  obtain ⟨L, hL⟩ : ∃ L, L = allL l := ⟨_, rfl⟩
  have WT := Lib.hid (fun w h => AllW_any v l L r hL hr w h)
  by_cases h0 : r = 0
  case neg =>
    have hF0 : F = [] := by rw [hF, freeL, allL, if_neg (by rw [← hr]; exact h0)]; rfl
    subst hF0
    have n1 : (r != 0) = true := by rw [bne_iff_ne]; exact h0
    clear hF hr h hL h0
    go_enter Tryz.func122, Tryz.ntmps122
    go_wp2_with fail
    refine (WT.out _ (H.out.below B)).mono ?_
    rintro e wa1 ⟨xl, rfl, ol, b⟩
    replace B := B.trans (b.mono B.size); clear b
    go_wp2
    go_ret2
    exact ⟨_, rfl, OwnK.nil _ _, B⟩
  case pos =>
    subst h0
    have hl9 : L.length ≤ 960 := by rw [hL]; exact all_len hr.symm
    have HF := Lib.hid (show F = free L by rw [hF, hL]; rfl)
    obtain ⟨N, hN⟩ : ∃ N, N = L.length := ⟨_, rfl⟩
    have HN := Lib.hid hN
    have hN9 : N ≤ 960 := by omega
    clear hF hr h hL hl9 hN
    go_enter Tryz.func122, Tryz.ntmps122
    go_wp2_with fail
    refine (WT.out _ (H.out.below B)).mono ?_
    rintro e wa1 ⟨xl, rfl, ol, b⟩
    replace B := B.trans (b.mono B.size); clear b
    have HO := Lib.hid ol.rd
    have lx := HO.out.len
    rw [← HN.out] at lx
    have hB1 := B.size
    have HB := Lib.hid (And.intro B hB1)
    have BB : Below wa1.heap.size wa1 wa1 := Below.refl _ _
    have HBB := Lib.hid BB
    clear ol B BB hB1
    go_wp2
    go_loopg [6, 19] N (fun g xv i wr => ∃ j : Nat, j ≤ N ∧ g = N - j ∧ i = .int .i64 j ∧ Hid (OwnK wr wa1.heap.size xv (free (L.take j)) ∧ Below wa1.heap.size wa1 wr))
    case atStart => exact ⟨0, by omega, by omega, rfl, Lib.hid ⟨by rw [List.take_zero]; exact OwnK.nil _ _, HBB.out⟩⟩
    case round =>
      obtain ⟨j, hj, rfl, rfl, hh⟩ := hrel
      clear HBB
      obtain ⟨o1, B⟩ := hh.out
      by_cases hlt : j < N
      · obtain ⟨bb, oo, b, ia, m0, m1, m2, m3, m4, m5, hb, _⟩ := (Blks.below HO.out B).at_ (k := j) (by rw [← HN.out]; exact hlt)
        have htk : L.take (j + 1) = L.take j ++ [b] := by rw [List.take_add_one, hb.out]; rfl
        have hsn := free_snoc (L := L.take j) (b := b)
        rw [← htk] at hsn
        have hB0 := B.size
        by_cases hk : b.kind = 2
        · rw [if_pos hk] at hsn
          have k1 : (b.kind == 2) = true := by rw [beq_iff_eq]; exact hk
          have HS := Lib.hid hsn
          have hol : (free (L.take j)).length ≤ j := Nat.le_trans (List.length_filter_le _ _) (by rw [List.length_take]; omega)
          clear hsn htk hk hb
          go_upto_region 8 with (fail)
          refine wp_gen (fun Wv => Bx Wv (wr.heap.size) (82) (#[.int .i64 b.at_, .int .i64 b.size, .int .i64 b.kind, .int .i64 b.ty, .bool b.mark, .int .u64 b.next.toNat]) ∧ Below wr.heap.size wr Wv) ⟨((Bx.at_ (by simp))), ((Below.refl _ wr).alloc (by simp <;> omega) _)⟩ ?_
          rintro wa2 ⟨g2, b⟩
          replace o1 := o1.below b; replace B := B.trans (b.mono B.size); clear b
          have c_g2 := g2.cell; have f_g2 := g2.free; have a_g2 := fun o => (g2.alloc o).cell; have d_g2 := fun o o2 => ((g2.alloc o).alloc o2).cell; have e_g2 := fun o => (g2.alloc o).free
          have hne := own_fresh o1
          go_wp2_with (at_builtin; refine wpList_append (by rfl) rfl rfl rfl Tryz.underlying77 info_block rfl (by omega) (by exact own_below o1 ((Below.refl _ _).alloc (Nat.le_refl _) _)) (by exact lit_block b (by simp)) (bkL_one b) (by omega) (by omega) (by exact B.alloc B.size _) (Nat.le_refl _) ?_; intro v1 w3 o3 B3 g3)
          have o4 : OwnK w3 wa1.heap.size v1 (free (L.take (j + 1))) := by rw [HS.out]; exact OwnK.of o3 (tabB_snoc _ b)
          have HZ := Lib.hid (And.intro o4 B3)
          go_roundg (N - (j + 1))
          case measure => omega
          case rel => exact ⟨j + 1, by omega, rfl, by go_num, HZ⟩
        · rw [if_neg hk, List.append_nil] at hsn
          have k1 : (b.kind == 2) = false := by rw [beq_eq_false_iff_ne]; exact hk
          have HS := Lib.hid hsn
          clear hsn htk hk hb
          go_upto_region 8 with (fail)
          refine wp_gen (fun Wv => Bx Wv (wr.heap.size) (82) (#[.int .i64 b.at_, .int .i64 b.size, .int .i64 b.kind, .int .i64 b.ty, .bool b.mark, .int .u64 b.next.toNat]) ∧ Below wr.heap.size wr Wv) ⟨((Bx.at_ (by simp))), ((Below.refl _ wr).alloc (by simp <;> omega) _)⟩ ?_
          rintro wa3 ⟨g2, b⟩
          replace o1 := o1.below b; replace B := B.trans (b.mono B.size); clear b
          have c_g2 := g2.cell; have f_g2 := g2.free; have a_g2 := fun o => (g2.alloc o).cell; have d_g2 := fun o o2 => ((g2.alloc o).alloc o2).cell; have e_g2 := fun o => (g2.alloc o).free
          have HZ := Lib.hid (And.intro o1 B)
          rw [← HS.out] at HZ
          go_wp2
          go_roundg (N - (j + 1))
          case measure => omega
          case rel => exact ⟨j + 1, by omega, rfl, by go_num, HZ⟩
      · obtain rfl : j = N := by omega
        have e : free (L.take j) = F := by rw [HF.out, HN.out, List.take_length]
        rw [e] at o1
        clear e
        obtain ⟨B0, hB1⟩ := HB.out
        have HBZ := Lib.hid (And.intro (o1.mono hB1) (B0.trans (B.mono hB1)))
        clear o1 B B0
        go_wp2
        go_ret2
        exact ⟨_, rfl, HBZ.out⟩
end Go.Proofs.YtmbokdnndlnjkaaGreat
namespace Go.Proofs.YtmbokdnndlnjkaaGreat
open Go.RowKit L02
def RetW (w : World) (l : List UInt64) (e : Ending) (w' : World) : Prop := ∃ v, e = .returned v ∧ OwnW w' w.heap.size 42 v l ∧ Below w.heap.size w w'
theorem Twin_any (v : Value) (l : List UInt64) (w : World) (h : Words w v l) (hl : l.length ≤ 1048576) : Calls Tryz.prog 13 #[v] w (RetW w l) := by
  have H := Lib.hid h; clear h
  go_enter Tryz.func13, Tryz.ntmps13
  go_wp2_with (at_builtin
               refine wpList_append (by rfl) rfl rfl rfl Tryz.underlying22 info_u64 rfl (by omega) (lit0_own (Nat.le_refl _)) (by exact H.out.alloc _) (one_u64s _) (by omega) (by omega) ((Below.refl _ w).alloc (Nat.le_refl _) _) (Nat.le_refl _) ?_
               intro v1 w1 hown hbel hv)
  go_ret
  exact ⟨v1, rfl, OwnW.of hown (by simp), hbel⟩
end Go.Proofs.YtmbokdnndlnjkaaGreat
namespace Go.Proofs.YtmbokdnndlnjkaaGreat
open Go.RowKit L02
theorem OwnI.push {w : World} {B E n : Nat} {v : Value} {l : List Int} {x : Int} {xs : List Value} (h : w.ownsRow B E 1 v n (xs ++ [Value.int .i64 x])) (hx : xs = l.map i64) : OwnI w B E v (l ++ [x]) :=
  OwnI.of h (by subst hx; simp [i64])
end Go.Proofs.YtmbokdnndlnjkaaGreat
namespace Go.Proofs.YtmbokdnndlnjkaaGreat
open Go.RowKit L02 L05 L06 L07
end Go.Proofs.YtmbokdnndlnjkaaGreat
namespace Go.Proofs.YtmbokdnndlnjkaaGreat
open Go.RowKit L02 L05 L06 L07
/-- entries: two cells each -/
def eC (E : List (Int × UInt64)) : List Value := E.flatMap fun e => [.int .i64 e.1, .int .u64 e.2.toNat]
theorem eC_len (E : List (Int × UInt64)) : (eC E).length = E.length * 2 := by
  induction E with
  | nil => rfl
  | cons h H ih => simp only [eC, List.flatMap_cons, List.length_append, List.length_cons, List.length_nil] at *; omega
theorem eC_get : ∀ (E : List (Int × UInt64)) (k : Nat) (e : Int × UInt64), E[k]? = some e → (eC E)[k * 2]? = some (.int .i64 e.1) ∧ (eC E)[k * 2 + 1]? = some (.int .u64 e.2.toNat)
  | [], k, h, hk => by simp at hk
  | x :: H, 0, h, hk => by simp at hk; subst hk; exact ⟨rfl, rfl⟩
  | x :: H, k + 1, h, hk => by
    have := eC_get H k h (by simpa using hk)
    rw [show (k + 1) * 2 = k * 2 + 1 + 1 by omega]
    simpa [eC] using this
theorem eC_snoc (E : List (Int × UInt64)) (a : Int) (b : UInt64) : eC E ++ [.int .i64 a, .int .u64 b.toNat] = eC (E ++ [(a, b)]) := by simp [eC, List.flatMap_append]
def Ents (w : World) (v : Value) (E : List (Int × UInt64)) : Prop := Rd w 2 v E.length (eC E)
def OwnE (w : World) (base : Nat) (v : Value) (E : List (Int × UInt64)) : Prop := w.ownsRow base 120 2 v E.length (eC E)
theorem OwnE.rd {w : World} {base : Nat} {v : Value} {E : List (Int × UInt64)} (h : OwnE w base v E) : Ents w v E := Rd.of_own h
theorem Ents.below {w w' : World} {v : Value} {E : List (Int × UInt64)} (h : Ents w v E) (hb : Below w.heap.size w w') : Ents w' v E := Rd.below h hb
theorem OwnE.below {w w' : World} {base : Nat} {v : Value} {E : List (Int × UInt64)} (h : OwnE w base v E) (hb : Below w.heap.size w w') : OwnE w' base v E := own_below h hb
theorem OwnE.nil (w : World) (base : Nat) : OwnE w base (.slice none 0 0) [] := World.ownsRow_nil w base _ 2
theorem OwnE.of {w : World} {B n : Nat} {v : Value} {xs : List Value} {E : List (Int × UInt64)} (h : w.ownsRow B 120 2 v n xs) (hx : xs = eC E) : OwnE w B v E := by
  subst hx
  have hn : n = E.length := by have := h.1; rw [eC_len] at this; omega
  subst hn; exact h
theorem size_ent : (Tryz.prog.info? 120).map (·.size) = some 2 := by kernel_rfl
theorem info_ent : (Tryz.prog.info? 120).map (fun i => (i.zero, i.size, i.bytes)) = some (some (.agg #[.int .i64 0, .int .u64 0]), 2, 16) := by kernel_rfl
theorem Ents.at_ {w : World} {v : Value} {E : List (Int × UInt64)} (h : Ents w v E) {k : Nat} (hk : k < E.length) :
    ∃ b o a x, (∀ W, (Instr.indexAt 49 v (.int .i64 (k : Int))).run Tryz.prog W = .ok (.pointer (some ⟨b, o, none⟩)) W) ∧ w.cell? ⟨b, o, none⟩ = some (.int .i64 a) ∧ w.cell? ⟨b, o + 1, none⟩ = some (.int .u64 (UInt64.toNat x)) ∧ Hid (E[k]? = some (a, x)) := by
  have hix := fun W => Rd.ixN h Tryz.underlying49 size_ent hk W
  obtain ⟨b, o, c, rfl, hb, hc, hcell⟩ := Rd.form h (by omega)
  have hs : E[k]? = some (E[k].1, E[k].2) := List.getElem?_eq_getElem hk
  have t := eC_get E k _ hs
  exact ⟨b, o + k * 2, E[k].1, E[k].2, fun W => hix W, hcell _ _ t.1, hcell _ _ t.2, Lib.hid hs⟩
theorem lit_ent {w : World} {e : TypeId} {n : Nat} (a : Int) (x : UInt64) (hn : w.heap.size = n) : Rd (w.alloc (.cells #[.int .i64 a, .int .u64 x.toNat] e)) 2 (.slice (some ⟨n, 0, none⟩) 1 1) 1 [.int .i64 a, .int .u64 x.toNat] := by
  subst hn; exact lit_rdK (n := 1) (sz := 2) rfl (by omega)
theorem ent_neq (a c : Int) (b d : UInt64) (r : Bool) (hr : r = !(a == c && b == d)) (W : World) : (binOp .neq 120 (.agg #[.int .i64 a, .int .u64 b.toNat]) (.agg #[.int .i64 c, .int .u64 d.toNat])).run Tryz.prog W = .ok (.bool r) W := by
  subst hr
  have e : (b == d) = ((b.toNat : Int) == (d.toNat : Int)) := by
    rw [Bool.eq_iff_iff, beq_iff_eq, beq_iff_eq]
    exact ⟨fun h => by rw [h], fun h => UInt64.toNat_inj.1 (by omega)⟩
  rw [e]
  cases h : (a == c) <;> cases h2 : ((b.toNat : Int) == (d.toNat : Int)) <;> simp [go_sem, h, h2]
def hE (V : List UInt64) (l : List Int) : List (Int × UInt64) := l.map fun i => (i, V.getD i.toNat 0)
end Go.Proofs.YtmbokdnndlnjkaaGreat
namespace Go.Proofs.YtmbokdnndlnjkaaGreat.L19
open L02 L07 L13 L14 L15 L16 L18 L20
/-- the error of a handle of an image -/
def askI (l : List UInt64) (sl g : Int) : Int := if chk19 l = 0 then resErr l sl g else chk19 l
def atI (l : List UInt64) (sl g : Int) : Int := if askI l sl g = 0 then res l sl g else 0
/-- the error of a field, its address, its kind -/
def kiErr (l : List UInt64) (sl g n : Int) : Int := if askI l sl g = 0 then (if 0 ≤ n ∧ n < (kinds (seen l) sl).length then 0 else 2) else askI l sl g
def kiAt (l : List UInt64) (sl g n : Int) : Int := if kiErr l sl g n = 0 then res l sl g + 2 + n else 0
def kiK (l : List UInt64) (sl g n : Int) : UInt8 := if kiErr l sl g n = 0 then (kinds (seen l) sl).getD n.toNat 0 else 0
def wdI (l : List UInt64) (sl g n : Int) : UInt64 := l.getD (kiAt l sl g n).toNat 0
def giE (l : List UInt64) (sl g n : Int) : Int := if kiErr l sl g n = 0 then (if (kiK l sl g n).toNat = 3 then 42 else 0) else kiErr l sl g n
def siL (l : List UInt64) (sl g n : Int) (x : UInt64) : List (Int × UInt64) := if giE l sl g n = 0 then [(kiAt l sl g n, setV (kiK l sl g n) x)] else []
/-- a handle that is right: its slot, its object -/
structure Hd (l : List UInt64) (k a nn q : Nat) (sg : Int) (b : Hb) (t : List UInt8) : Prop where
  rt : Rt l
  hk : k < 16
  hs : (slots l)[k]? = some ⟨sg, true, a⟩
  ho : (O19 l)[nn]? = some b
  hat : b.at_ = a
  hty : b.ty = q
  hT : (T19 l)[q]? = some t
  hkB : kindsB (T19 l) b = t
  ha1 : 128 ≤ a
  ha2 : a < 2048
  hle : a + 2 + t.length ≤ l.length
  hn8 : t.length ≤ 8
  hres : res l k sg = a
  hr : resErr l k sg = 0
  hask : askI l k sg = 0
  hati : atI l k sg = a
  hnn : nn < 960
theorem Hd.of {l : List UInt64} {sl g : Int} (h : askI l sl g = 0) : ∃ k a nn q b t, sl = ((k : Nat) : Int) ∧ Hd l k a nn q g b t := by
  have h0 := h
  unfold askI at h
  split at h
  · rename_i hc
    have rt : Rt l := Rt.of hc
    obtain ⟨_, k, s, hk, e1, hs, hu, hg, hr, e2⟩ := resErr_ok h
    obtain ⟨sg, su, sa⟩ := s
    dsimp only at hu hg e2
    subst hu; subst hg
    obtain ⟨nn, b, i1, i2, i3, i4⟩ := idx_of (rt.slots _ (List.mem_of_getElem? hs) rfl)
    dsimp only at i1 i3
    obtain ⟨a, q, t, ha, hq, hTq, hkB, ha1, ha2, hle, hn8⟩ : ∃ (a q : Nat) (t : List UInt8), b.at_ = a ∧ b.ty = q ∧ (T19 l)[q]? = some t ∧ kindsB (T19 l) b = t ∧ 128 ≤ a ∧ a ≤ 2048 ∧ a + 2 + t.length ≤ l.length ∧ t.length ≤ 8 := by
      have hb := List.mem_of_getElem? i2
      obtain ⟨a, h1, h2, h3, h4, h5, h6, h7, h8, _⟩ := objs_at rt.al hb
      have hty : Typed (T19 l) b := rt.good 8 (by omega) (by omega) b hb
      have hok : BkOk b := by rw [h6]; exact stand_ok h5
      obtain ⟨q, hq⟩ := Int.eq_ofNat_of_zero_le hok.bounds.2.2.2.2.1
      have hlt : q < (T19 l).length := by have := hty.1; omega
      have hT : (T19 l)[q]? = some (T19 l)[q] := List.getElem?_eq_getElem hlt
      have hkB : kindsB (T19 l) b = (T19 l)[q] := by unfold kindsB; rw [hq, Int.toNat_natCast, List.getD_eq_getElem?_getD, hT]; rfl
      have hsz := hty.2
      rw [hkB] at hsz
      have := rt.sz.2.1
      exact ⟨a, q, _, h2, hq, hT, hkB, h1, by omega, by omega, (kErr_ok ((T19_ok rt.ty).2 _ (List.mem_of_getElem? hT))).1⟩
    have hsa : sa = a := by rw [← ha, i3]
    subst hsa
    have hOl := objs_len rt.al
    subst e1
    refine ⟨k, a, nn, q, b, t, rfl, rt, hk, hs, i2, ha, hq, hTq, hkB, ha1, ?_, hle, hn8, e2, h, h0, ?_, by omega⟩
    · have := rt.sz.2.1; omega
    · rw [atI, if_pos h0, e2]
  · omega
theorem Hd.own {l : List UInt64} {k a nn q : Nat} {sg : Int} {b : Hb} {t : List UInt8} (h : Hd l k a nn q sg b t) : own (seen l) k = nn := by
  unfold L20.own seen
  rw [Int.toNat_natCast, List.getD_eq_getElem?_getD, List.getElem?_map, h.hs, Option.map_some]
  unfold slOf
  rw [if_pos rfl, ← h.hat, idx_at h.rt.al h.ho]
  rfl
theorem Hd.ob {l : List UInt64} {k a nn q : Nat} {sg : Int} {b : Hb} {t : List UInt8} (h : Hd l k a nn q sg b t) : ob (seen l) nn = obOf l (T19 l) (O19 l) b := by
  unfold L20.ob seen
  rw [List.getD_eq_getElem?_getD, List.getElem?_map, h.ho]; rfl
theorem Hd.kinds {l : List UInt64} {k a nn q : Nat} {sg : Int} {b : Hb} {t : List UInt8} (h : Hd l k a nn q sg b t) : kinds (seen l) k = t := by
  unfold L20.kinds
  rw [h.own, h.ob]
  show kindsB (T19 l) b = t
  exact h.hkB
/-- a field that is there -/
structure Fd (l : List UInt64) (k a nn q i : Nat) (sg : Int) (b : Hb) (t : List UInt8) (kd : UInt8) (x : UInt64) : Prop where
  hd : Hd l k a nn q sg b t
  hi : i < t.length
  hkd : t[i]? = some kd
  hx : l[a + 2 + i]? = some x
  hE : kiErr l k sg i = 0
  hAt : kiAt l k sg i = ((a + 2 + i : Nat) : Int)
  hK : kiK l k sg i = kd
  hW : wdI l k sg i = x
  ref : kd.toNat = 3 → x = 0 ∨ IsObj (O19 l) x.toNat
theorem Fd.of {l : List UInt64} {sl g n : Int} (h : kiErr l sl g n = 0) : ∃ k a nn q i b t kd x, sl = ((k : Nat) : Int) ∧ n = ((i : Nat) : Int) ∧ Fd l k a nn q i g b t kd x := by
  have h0 := h
  unfold kiErr at h
  split at h
  · rename_i ha
    split at h
    · rename_i hn
      obtain ⟨k, a, nn, q, b, t, rfl, hd⟩ := Hd.of ha
      obtain ⟨i, rfl⟩ := Int.eq_ofNat_of_zero_le hn.1
      have hi : i < t.length := by have := hn.2; rw [hd.kinds] at this; omega
      have hAt : kiAt l k g i = ((a + 2 + i : Nat) : Int) := by rw [kiAt, if_pos h0, hd.hres]; omega
      have hlt : a + 2 + i < l.length := by have := hd.hle; omega
      refine ⟨k, a, nn, q, i, b, t, t[i], l[a + 2 + i], rfl, rfl, hd, hi, List.getElem?_eq_getElem hi, List.getElem?_eq_getElem hlt, h0, hAt, ?_, ?_, ?_⟩
      · rw [kiK, if_pos h0, hd.kinds, Int.toNat_natCast, List.getD_eq_getElem?_getD, List.getElem?_eq_getElem hi]; rfl
      · rw [wdI, hAt, Int.toNat_natCast, List.getD_eq_getElem?_getD, List.getElem?_eq_getElem hlt]; rfl
      · intro h3
        have := hd.rt.good 11 (by omega) (by omega) b (List.mem_of_getElem? hd.ho) i (by rw [hd.hkB]; exact hi) (by rw [hd.hkB, List.getD_eq_getElem?_getD, List.getElem?_eq_getElem hi]; exact h3)
        have hf : fw l b i = l[a + 2 + i] := by unfold fw; rw [hd.hat, Int.toNat_natCast, List.getD_eq_getElem?_getD, List.getElem?_eq_getElem hlt]; rfl
        rw [hf] at this; exact this
    · omega
  · rename_i ha; exact absurd h ha
end Go.Proofs.YtmbokdnndlnjkaaGreat.L19
namespace Go.Proofs.YtmbokdnndlnjkaaGreat
open Go.RowKit L01 L02 L05 L06 L07 L13 L14 L15 L18 L19
set_option maxRecDepth 100000 in
set_option maxHeartbeats 1000000 in
theorem Same22_any (va vb : Value) (La Lb : List (Int × UInt64)) (r : Bool) (hr : r = decide (La = Lb)) (w : World) (ha : Ents w va La) (hb : Ents w vb Lb) :
    Calls Tryz.prog 20 #[va, vb] w fun e w' => e = .returned (.bool r) ∧ Below w.heap.size w w' := by
  have B : Below w.heap.size w w := Below.refl _ _
  have la1 := Rd.len ha Tryz.underlying49; have lb1 := Rd.len hb Tryz.underlying49
  have la2 := Rd.len_le ha; have lb2 := Rd.len_le hb
  have HA := Lib.hid ha; have HB := Lib.hid hb; have HR := Lib.hid hr; clear ha hb hr
  obtain ⟨na, hna⟩ : ∃ na, na = La.length := ⟨_, rfl⟩
  obtain ⟨nb, hnb⟩ : ∃ nb, nb = Lb.length := ⟨_, rfl⟩
  rw [← hna] at la1 la2; rw [← hnb] at lb1 lb2
  have Hna := Lib.hid hna; have Hnb := Lib.hid hnb; clear hna hnb
  by_cases hl : na = nb
  · subst hl
    go_enter Tryz.func20, Tryz.ntmps20
    go_wp2
    have HBB := Lib.hid B; clear B
    go_loopw [5] (fun i wr => ∃ k : Nat, k ≤ na ∧ i = .int .i64 k ∧ Hid (La.take k = Lb.take k) ∧ Below w.heap.size w wr) (fun i _ => na - (intOf i).toNat)
    case atStart => exact ⟨0, Nat.zero_le _, rfl, Lib.hid rfl, HBB.out⟩
    case round =>
      obtain ⟨k, hk, rfl, heq, B⟩ := hrel
      by_cases hlt : k < na
      · obtain ⟨b, o, s1, s2, ia, m0, m1, hs⟩ := (HA.out.below B).at_ (k := k) (by have := Hna.out; omega)
        obtain ⟨b', o', t1, t2, ib, m3, m4, ht⟩ := (HB.out.below B).at_ (k := k) (by have := Hnb.out; omega)
        obtain ⟨c, hc⟩ : ∃ c, c = !(s1 == t1 && s2 == t2) := ⟨_, rfl⟩
        have q := fun W => ent_neq s1 t1 s2 t2 c hc W
        have HC := Lib.hid hc; clear hc
        cases c
        · go_wp2
          refine wp_region_calm (by kernel_rfl) (by kernel_rfl) ?_
          have c_m0 := fun x : Fut _ => cell_later x.h m0
          have c_m1 := fun x : Fut _ => cell_later x.h m1
          have c_m3 := fun x : Fut _ => cell_later x.h m3
          have c_m4 := fun x : Fut _ => cell_later x.h m4
          repeat (go_big_quiet_step (fail))
          refine wpQuiet_nil ?_
          intro _ hw'
          obtain ⟨xq, hw''⟩ := hw'
          subst hw''
          clear c_m0; replace m0 := cell_later xq.h m0
          clear c_m1; replace m1 := cell_later xq.h m1
          clear c_m3; replace m3 := cell_later xq.h m3
          clear c_m4; replace m4 := cell_later xq.h m4
          replace B := B.trans (xq.h.mono B.size)
          go_wp2
          go_roundw
          case rel =>
            have e : s1 = t1 ∧ s2 = t2 := by have := HC.out; simpa using this
            refine ⟨k + 1, by omega, by go_num, Lib.hid ?_, B⟩
            rw [List.take_add_one, List.take_add_one, heq.out, hs.out, ht.out, e.1, e.2]
          case measure => simp [intOf]; omega
        · go_wp2
          refine wp_region_calm (by kernel_rfl) (by kernel_rfl) ?_
          have c_m0 := fun x : Fut _ => cell_later x.h m0
          have c_m1 := fun x : Fut _ => cell_later x.h m1
          have c_m3 := fun x : Fut _ => cell_later x.h m3
          have c_m4 := fun x : Fut _ => cell_later x.h m4
          repeat (go_big_quiet_step (fail))
          refine wpQuiet_nil ?_
          intro _ hw'
          obtain ⟨xq, hw''⟩ := hw'
          subst hw''
          clear c_m0; replace m0 := cell_later xq.h m0
          clear c_m1; replace m1 := cell_later xq.h m1
          clear c_m3; replace m3 := cell_later xq.h m3
          clear c_m4; replace m4 := cell_later xq.h m4
          replace B := B.trans (xq.h.mono B.size)
          go_wp2
          go_ret
          refine ⟨ret_bool ?_, B⟩
          have e : ¬ (s1 = t1 ∧ s2 = t2) := by have := HC.out; intro h; simp [h.1, h.2] at this
          rw [HR.out, eq_comm, decide_eq_false_iff_not]
          intro hab
          have h1 := hs.out; have h2 := ht.out
          rw [hab, h2] at h1
          injection h1 with h1
          injection h1 with h1 h3
          exact e ⟨h1.symm, h3.symm⟩
      · obtain rfl : k = na := by omega
        go_wp2
        go_ret
        refine ⟨ret_bool ?_, B⟩
        have h1 := heq.out
        rw [List.take_of_length_le (by have := Hna.out; omega), List.take_of_length_le (by have := Hnb.out; omega)] at h1
        rw [HR.out, h1]; simp
  · have hl' : ((na : Int) != nb) = true := by rw [bne_iff_ne]; omega
    go_enter Tryz.func20, Tryz.ntmps20
    go_wp2
    go_ret
    refine ⟨ret_bool ?_, B⟩
    rw [HR.out, eq_comm, decide_eq_false_iff_not]
    intro hab
    have h1 := Hna.out; have h2 := Hnb.out
    rw [hab] at h1; omega
end Go.Proofs.YtmbokdnndlnjkaaGreat



namespace Go.Proofs.YtmbokdnndlnjkaaGreat
open Go.RowKit L02 L13 L18 L20
theorem size_obj : (Tryz.prog.info? 85).map (·.size) = some 2 := by kernel_rfl
theorem info_obj : (Tryz.prog.info? 85).map (fun i => (i.zero, i.size, i.bytes)) = some (some (.agg #[.int .i64 0, .slice none 0 0]), 2, 32) := by kernel_rfl
/-- the cells of objects, whose fields are the slices vs -/
def obC : List Ob → List Value → List Value
  | o :: L, x :: vs => i64 o.ty :: x :: obC L vs
  | _, _ => []
theorem obC_len : ∀ {L : List Ob} {vs : List Value}, vs.length = L.length → (obC L vs).length = L.length * 2
  | [], _, _ => rfl
  | o :: L, [], h => by simp at h
  | o :: L, x :: vs, h => by rw [obC, List.length_cons, List.length_cons, obC_len (by simpa using h), List.length_cons]; omega
theorem obC_get : ∀ {L : List Ob} {vs : List Value} {k : Nat} {o : Ob} {x : Value}, L[k]? = some o → vs[k]? = some x → (obC L vs)[k * 2]? = some (i64 o.ty) ∧ (obC L vs)[k * 2 + 1]? = some x
  | [], _, _, _, _, h, _ => by simp at h
  | o :: L, [], _, _, _, _, h => by simp at h
  | o :: L, x :: vs, 0, o', x', h, h' => by simp at h h'; subst h; subst h'; simp [obC]
  | o :: L, x :: vs, k + 1, o', x', h, h' => by
    have := obC_get (L := L) (vs := vs) (k := k) (by simpa using h) (by simpa using h')
    rw [obC, show (k + 1) * 2 = k * 2 + 1 + 1 by omega, show k * 2 + 1 + 1 + 1 = (k * 2 + 1) + 1 + 1 by omega]
    simpa using this
theorem obC_snoc : ∀ {L : List Ob} {vs : List Value} {o : Ob} {x : Value}, vs.length = L.length → obC (L ++ [o]) (vs ++ [x]) = obC L vs ++ [i64 o.ty, x]
  | [], [], _, _, _ => rfl
  | [], x :: vs, _, _, h => by simp at h
  | o :: L, [], _, _, h => by simp at h
  | o :: L, x :: vs, o', x', h => by
    rw [List.cons_append, List.cons_append, obC, obC_snoc (by simpa using h), obC]; rfl
/-- A slice of objects. -/
def Objs (w : World) (v : Value) (L : List Ob) : Prop := ∃ vs : List Value, vs.length = L.length ∧ Rd w 2 v L.length (obC L vs) ∧ ∀ (i : Nat) x o, vs[i]? = some x → L[i]? = some o → Words w x o.fs
/-- .. of the call's own, their fields too, which lie apart -/
def OwnO (w : World) (base : Nat) (v : Value) (L : List Ob) : Prop := ∃ vs : List Value, vs.length = L.length ∧ w.ownsRow base 85 2 v L.length (obC L vs) ∧ (∀ (i : Nat) x o, vs[i]? = some x → L[i]? = some o → OwnW w base 42 x o.fs) ∧
  ∀ (i j : Nat) x y, i ≠ j → vs[i]? = some x → vs[j]? = some y → x.ownBlock = none ∨ x.ownBlock ≠ y.ownBlock
theorem OwnO.rd {w : World} {base : Nat} {v : Value} {L : List Ob} (h : OwnO w base v L) : Objs w v L := by
  obtain ⟨vs, h1, h2, h4, _⟩ := h; exact ⟨vs, h1, Rd.of_own h2, fun i x l h5 h6 => (h4 i x l h5 h6).rd⟩
theorem Objs.below {w w' : World} {v : Value} {L : List Ob} (h : Objs w v L) (hb : Below w.heap.size w w') : Objs w' v L := by
  obtain ⟨vs, h1, h2, h3⟩ := h; exact ⟨vs, h1, h2.below hb, fun i x l h4 h5 => (h3 i x l h4 h5).below hb⟩
theorem OwnO.below {w w' : World} {base : Nat} {v : Value} {L : List Ob} (h : OwnO w base v L) (hb : Below w.heap.size w w') : OwnO w' base v L := by
  obtain ⟨vs, h1, h2, h4, h5⟩ := h; exact ⟨vs, h1, own_below h2 hb, fun i x l h5 h6 => (h4 i x l h5 h6).below hb, h5⟩
theorem OwnO.mono {w : World} {base base' : Nat} {v : Value} {L : List Ob} (h : OwnO w base v L) (hb : base' ≤ base) : OwnO w base' v L := by
  obtain ⟨vs, h1, h2, h4, h5⟩ := h; exact ⟨vs, h1, own_mono h2 hb, fun i x l h5 h6 => own_mono (h4 i x l h5 h6) hb, h5⟩
theorem OwnT.mono {w : World} {base base' : Nat} {v : Value} {L : List (List UInt8)} (h : OwnT w base v L) (hb : base' ≤ base) : OwnT w base' v L := by
  obtain ⟨vs, h1, h2, h4⟩ := h; exact ⟨vs, h1, own_mono h2 hb, fun i x l h5 h6 => own_mono (h4 i x l h5 h6) hb⟩
theorem OwnO.nil (w : World) (base : Nat) : OwnO w base (.slice none 0 0) [] := ⟨[], rfl, World.ownsRow_nil w base _ 2, fun i x l h => by simp at h, fun i j x y _ h => by simp at h⟩
theorem Objs.nil (w : World) : Objs w (.slice none 0 0) [] := (OwnO.nil w 0).rd
theorem Typs.nil (w : World) : Typs w (.slice none 0 0) [] := (OwnT.nil w 0).rd
theorem Slots.nil (w : World) : Slots w (.slice none 0 0) [] := Rd.nil w 3
theorem Objs.len {w : World} {v : Value} {L : List Ob} (h : Objs w v L) : ∀ ty W, (Builtin.len_ #[28] ty #[v]).run Tryz.prog W = .ok (.int .i64 (L.length : Int)) W := by
  obtain ⟨vs, h1, h2, h3⟩ := h; exact Rd.len h2 Tryz.underlying28
theorem Objs.len_le {w : World} {v : Value} {L : List Ob} (h : Objs w v L) : L.length ≤ 9223372036854775807 := by
  obtain ⟨vs, h1, h2, h3⟩ := h; exact Rd.len_le h2
theorem Slots.len {w : World} {v : Value} {L : List Sl} (h : Slots w v L) : ∀ ty W, (Builtin.len_ #[29] ty #[v]).run Tryz.prog W = .ok (.int .i64 (L.length : Int)) W := Rd.len h Tryz.underlying29
theorem Slots.len_le {w : World} {v : Value} {L : List Sl} (h : Slots w v L) : L.length ≤ 9223372036854775807 := Rd.len_le h
theorem Objs.at_ {w : World} {v : Value} {L : List Ob} (h : Objs w v L) {k : Nat} (hk : k < L.length) :
    ∃ b q x o, (∀ W, (Instr.indexAt 28 v (.int .i64 (k : Int))).run Tryz.prog W = .ok (.pointer (some ⟨b, q, none⟩)) W) ∧ w.cell? ⟨b, q, none⟩ = some (.int .i64 o.ty) ∧ w.cell? ⟨b, q + 1, none⟩ = some x ∧ Hid (L[k]? = some o) ∧ Hid (Words w x o.fs) ∧ b < w.heap.size := by
  obtain ⟨vs, h1, h2, h3⟩ := h
  have hv : vs[k]? = some vs[k] := List.getElem?_eq_getElem (by omega)
  have hl : L[k]? = some L[k] := List.getElem?_eq_getElem hk
  have hix := fun W => Rd.ixN h2 Tryz.underlying28 size_obj hk W
  obtain ⟨b, q, c, rfl, hb, hc, hcell⟩ := Rd.form h2 (by omega)
  obtain ⟨c0, c1⟩ := obC_get hl hv
  exact ⟨b, q + k * 2, vs[k], L[k], fun W => hix W, hcell _ _ c0, hcell _ _ c1, Lib.hid hl, Lib.hid (h3 k _ _ hv hl), hb⟩
theorem Words.oneCell {w : World} {x : Value} {l : List UInt64} (h : Words w x l) : x.oneCell' = true := by
  obtain ⟨A, c, rfl, _⟩ := h; rfl
theorem Typs.oneCell {w : World} {x : Value} {l : List (List UInt8)} (h : Typs w x l) : x.oneCell' = true := by
  obtain ⟨_, _, ⟨A, c, rfl, _⟩, _⟩ := h; rfl
theorem Objs.oneCell {w : World} {x : Value} {l : List Ob} (h : Objs w x l) : x.oneCell' = true := by
  obtain ⟨_, _, ⟨A, c, rfl, _⟩, _⟩ := h; rfl
theorem Slots.oneCell {w : World} {x : Value} {l : List Sl} (h : Slots w x l) : x.oneCell' = true := by
  obtain ⟨A, c, rfl, _⟩ := h; rfl
/-- A model: three slices. -/
structure Mod (w : World) (tv ov sv : Value) (m : Mo) : Prop where
  t : Typs w tv m.types
  o : Objs w ov m.objs
  s : Slots w sv m.slots
structure OwnM (w : World) (base E : Nat) (tv ov sv : Value) (m : Mo) : Prop where
  t : OwnT w base tv m.types
  o : OwnO w base ov m.objs
  s : OwnS w base E sv m.slots
theorem Mod.below {w w' : World} {tv ov sv : Value} {m : Mo} (h : Mod w tv ov sv m) (hb : Below w.heap.size w w') : Mod w' tv ov sv m := ⟨h.t.below hb, h.o.below hb, h.s.below hb⟩
theorem OwnM.below {w w' : World} {base E : Nat} {tv ov sv : Value} {m : Mo} (h : OwnM w base E tv ov sv m) (hb : Below w.heap.size w w') : OwnM w' base E tv ov sv m := ⟨h.t.below hb, h.o.below hb, h.s.below hb⟩
theorem OwnM.rd {w : World} {base E : Nat} {tv ov sv : Value} {m : Mo} (h : OwnM w base E tv ov sv m) : Mod w tv ov sv m := ⟨h.t.rd, h.o.rd, h.s.rd⟩
theorem OwnM.mono {w : World} {base base' E : Nat} {tv ov sv : Value} {m : Mo} (h : OwnM w base E tv ov sv m) (hb : base' ≤ base) : OwnM w base' E tv ov sv m := ⟨h.t.mono hb, h.o.mono hb, own_mono h.s hb⟩
theorem Mod.nil (w : World) : Mod w (.slice none 0 0) (.slice none 0 0) (.slice none 0 0) .nil := ⟨Typs.nil w, Objs.nil w, Slots.nil w⟩
end Go.Proofs.YtmbokdnndlnjkaaGreat
namespace Go.Proofs.YtmbokdnndlnjkaaGreat
open Go.RowKit L02 L13 L18 L20
end Go.Proofs.YtmbokdnndlnjkaaGreat
namespace Go.Proofs.YtmbokdnndlnjkaaGreat
open Go.RowKit L02 L13 L18 L20
end Go.Proofs.YtmbokdnndlnjkaaGreat
namespace Go.Proofs.YtmbokdnndlnjkaaGreat
open Go.RowKit L02 L13 L18 L20
end Go.Proofs.YtmbokdnndlnjkaaGreat
namespace Go.Proofs.YtmbokdnndlnjkaaGreat
open Go.RowKit L02 L13 L18 L20
end Go.Proofs.YtmbokdnndlnjkaaGreat
namespace Go.Proofs.YtmbokdnndlnjkaaGreat
open Go.RowKit L02 L13 L18 L20
end Go.Proofs.YtmbokdnndlnjkaaGreat
namespace Go.Proofs.YtmbokdnndlnjkaaGreat
open Go Go.RowKit
section
variable {P : Program} {ops : Array Oper} {md : Region.Mode}
def uponV (Post : World → Prop) (v : Value) : Result Next → Prop
  | .ok (.value u) w' => u = v ∧ Post w'
  | .ok .skip w' => v = undef ∧ Post w'
  | _ => False
def YieldsV (P : Program) (md : Region.Mode) (ops : Array Oper) (C : Array Bool → World → Prop) (i : Nat) (o : Oper) (v : Value) (a : Act) : Prop :=
  (Region.wanted o (yielded ops a.tmps) = true ∧ ∀ listed w, i ∈ Region.ready md ops listed → C listed w → uponV (C (listed.setIfInBounds i true)) v ((execOp a.eval o).run P w)) ∨
  (Region.wanted o (yielded ops a.tmps) = false ∧ v = undef ∧ ∀ listed w, i ∈ Region.ready md ops listed → C listed w → C (listed.setIfInBounds i true) w)
/-- number k0 yields the value x, whatever its world; the others as they do -/
def YieldsG (P : Program) (md : Region.Mode) (ops : Array Oper) (C : Array Bool → World → Prop) (k0 : Nat) (x : Value) (i : Nat) (o : Oper) (v : Value) (a : Act) : Prop :=
  (i = k0 ∧ v = x ∧ Region.wanted o (yielded ops a.tmps) = true) ∨ (i ≠ k0 ∧ YieldsV P md ops C i o v a)
theorem YieldsV.of_same {C : Array Bool → World → Prop} {i : Nat} {o : Oper} {v : Value} {a a' : Act} (hy : YieldsV P md ops C i o v a) (he : execOp a'.eval o = execOp a.eval o)
    (hw : Region.wanted o (yielded ops a'.tmps) = Region.wanted o (yielded ops a.tmps)) : YieldsV P md ops C i o v a' := by
  unfold YieldsV at *
  rw [he, hw]
  exact hy
/-- what is known of the operation k0: whatever it runs on, it runs alike at two acts -/
def G0 (k0 : Nat) (T : Act → Prop) (ops : Array Oper) : Prop := ∀ o, ops[k0]? = some o → ∀ a a' : Act, execOp a'.eval o = execOp a.eval o → T a → T a'
theorem YieldsG.of_same {C : Array Bool → World → Prop} {k0 : Nat} {x : Value} {i : Nat} {o : Oper} {v : Value} {a a' : Act} (hy : YieldsG P md ops C k0 x i o v a) (he : execOp a'.eval o = execOp a.eval o)
    (hw : Region.wanted o (yielded ops a'.tmps) = Region.wanted o (yielded ops a.tmps)) : YieldsG P md ops C k0 x i o v a' := by
  rcases hy with ⟨h1, h2, h3⟩ | ⟨h1, h2⟩
  · exact .inl ⟨h1, h2, by rw [hw]; exact h3⟩
  · exact .inr ⟨h1, h2.of_same he hw⟩
variable {C : Array Bool → World → Prop} {k0 : Nat} {x : Value} {T : Sem Next → Prop}
theorem uponV_val {Post Post' : World → Prop} {v v' : Value} {r : Result Next} (h : uponV Post v r) (h' : uponV Post' v' r) : v = v' := by
  cases r with
  | ok n w' =>
    cases n <;> simp only [uponV] at h h'
    · rw [← h.1, ← h'.1]
    · rw [h.1, h'.1]
  | halt y w' => simp only [uponV] at h
end
section
variable {P : Program} {ops : Array Oper} {rest : List Oper} {o : Oper} {a : Act} {Q : Act → Prop} {F : (Nat → Bool) → World → Prop} {js : List Nat} {k k0 : Nat} {md : Region.Mode} {x : Value} {T : Sem Next → Prop}
end
end Go.Proofs.YtmbokdnndlnjkaaGreat
namespace Go.Proofs.YtmbokdnndlnjkaaGreat
open Go.RowKit L02 L13 L18 L20
end Go.Proofs.YtmbokdnndlnjkaaGreat
namespace Go.Proofs.YtmbokdnndlnjkaaGreat
open Go.RowKit L02 L13 L18 L20
def Small (m : Mo) : Prop := m.types.length ≤ 20 ∧ m.objs.length ≤ 962 ∧ m.slots.length ≤ 30 ∧ (∀ t ∈ m.types, t.length ≤ 20) ∧ ∀ o ∈ m.objs, o.fs.length ≤ 20
theorem small_chk {m : Mo} (h : chk m = 0) : Small m := by
  obtain ⟨h1, h2, h3, h4, h5, h6⟩ := chk_ok h
  have ht : ∀ t ∈ m.types, t.length ≤ 8 := fun t ht => (kErr_ok (h4 t ht)).1
  refine ⟨by omega, by omega, by omega, fun t hh => by have := ht t hh; omega, fun o ho => ?_⟩
  have ho' := h5 o ho
  have hty : o.ty.toNat < m.types.length := by have := ho'.1; omega
  have : ty m.types o ∈ m.types := by
    rw [ty, List.getD_eq_getElem?_getD, List.getElem?_eq_getElem hty]
    exact List.getElem_mem hty
  have := ht _ this
  have := ho'.2.1
  omega
theorem OwnT.set {w : World} {B p i : Nat} {v u : Value} {L : List (List UInt8)} {t : TypeId} {cs : Array Value} (h : OwnT w B v L) (hg : Bx w p t cs) (h1 : 83 ≠ t) (h2 : 5 ≠ t) : OwnT (w.setCell ⟨p, i, none⟩ u) B v L := by
  obtain ⟨vs, a1, a2, a4⟩ := h; exact ⟨vs, a1, own_set a2 hg h1, fun i x l h5 h6 => own_set (a4 i x l h5 h6) hg h2⟩
theorem OwnO.set {w : World} {B p i : Nat} {v u : Value} {L : List Ob} {t : TypeId} {cs : Array Value} (h : OwnO w B v L) (hg : Bx w p t cs) (h1 : 85 ≠ t) (h2 : 42 ≠ t) : OwnO (w.setCell ⟨p, i, none⟩ u) B v L := by
  obtain ⟨vs, a1, a2, a4, a5⟩ := h; exact ⟨vs, a1, own_set a2 hg h1, fun i x l h5 h6 => own_set (a4 i x l h5 h6) hg h2, a5⟩
/-- one more object: xs the slices of fields, x the new one; the row was appended to. -/
theorem OwnO.snoc {w w' : World} {base n : Nat} {v v' x : Value} {L : List Ob} {o : Ob} {vs : List Value} (h1 : vs.length = L.length) (ho0 : w.ownsRow base 85 2 v L.length (obC L vs)) (ho : w'.ownsRow base 85 2 v' n (obC L vs ++ [i64 o.ty, x]))
    (h4 : ∀ (i : Nat) x l, vs[i]? = some x → L[i]? = some l → OwnW w base 42 x l.fs) (h5 : ∀ (i j : Nat) x y, i ≠ j → vs[i]? = some x → vs[j]? = some y → x.ownBlock = none ∨ x.ownBlock ≠ y.ownBlock)
    (hx : OwnW w base 42 x o.fs) (hap : ∀ (i : Nat) y, vs[i]? = some y → (x.ownBlock = none ∨ x.ownBlock ≠ y.ownBlock) ∧ (y.ownBlock = none ∨ y.ownBlock ≠ x.ownBlock)) (hg : w.grownBy w' v.ownBlock) : OwnO w' base v' (L ++ [o]) := by
  have hn : n = (L ++ [o]).length := by have := ho.1; rw [List.length_append, obC_len h1] at this; simp at this ⊢; omega
  subst hn
  have keep : ∀ y m, OwnW w base 42 y m → OwnW w' base 42 y m := fun y m hy => World.ownsRow.kept hy hg (own_unlike hy ho0 (by decide))
  have idx : ∀ i, i ≥ vs.length → ∀ y, (vs ++ [x])[i]? = some y → i = vs.length ∧ y = x := by
    intro i hi y hy
    rw [List.getElem?_append_right hi] at hy
    have h0 : i - vs.length = 0 := by
      rcases Nat.eq_zero_or_pos (i - vs.length) with h | h
      · exact h
      · rw [List.getElem?_eq_none (by simp; omega)] at hy; cases hy
    rw [h0] at hy
    simp at hy
    exact ⟨by omega, hy.symm⟩
  refine ⟨vs ++ [x], by simp [h1], by rw [obC_snoc h1]; exact ho, fun i y l hy hl => ?_, fun i j y z hij hy hz => ?_⟩
  · by_cases hi : i < vs.length
    · rw [List.getElem?_append_left hi] at hy
      rw [List.getElem?_append_left (by omega)] at hl
      exact keep _ _ (h4 i y l hy hl)
    · obtain ⟨rfl, rfl⟩ := idx i (by omega) y hy
      rw [List.getElem?_append_right (by omega), h1] at hl
      simp at hl; subst hl
      exact keep _ _ hx
  · by_cases hi : i < vs.length
    · rw [List.getElem?_append_left hi] at hy
      by_cases hj : j < vs.length
      · rw [List.getElem?_append_left hj] at hz
        exact h5 i j y z hij hy hz
      · obtain ⟨_, rfl⟩ := idx j (by omega) z hz
        exact (hap i y hy).2
    · obtain ⟨e1, rfl⟩ := idx i (by omega) y hy
      by_cases hj : j < vs.length
      · rw [List.getElem?_append_left hj] at hz
        exact (hap j z hz).1
      · obtain ⟨e2, rfl⟩ := idx j (by omega) z hz
        omega
theorem own_form' {w : World} {B e sz n : Nat} {v : Value} {xs : List Value} (h : w.ownsRow B e sz v n xs) : ∃ A c, v = .slice A n c := by
  obtain ⟨A, c, e, _⟩ := Rd.of_own h; exact ⟨A, c, e⟩
theorem OwnT.kept {w w' : World} {B B2 e n sz : Nat} {v a : Value} {L : List (List UInt8)} {xs : List Value} (h : OwnT w B v L) (ha : w.ownsRow B2 e sz a n xs) (hg : w.grownBy w' a.ownBlock) (h1 : 83 ≠ e) (h2 : 5 ≠ e) : OwnT w' B v L := by
  obtain ⟨vs, a1, a2, a4⟩ := h
  exact ⟨vs, a1, World.ownsRow.kept a2 hg (own_unlike a2 ha h1), fun i x l h5 h6 => World.ownsRow.kept (a4 i x l h5 h6) hg (own_unlike (a4 i x l h5 h6) ha h2)⟩
/-- what one more copied object leaves of memory -/
theorem copyO_mem {w wr W1 W3 : World} {B0 p a b n : Nat} {ot y v xt ys : Value} {vs : List Value} {L : List Ob} {o : Ob} {S : List Sl} {T : List (List UInt8)} {cs1 cs2 : Array Value}
    (z1 : vs.length = L.length) (z2 : wr.ownsRow B0 85 2 ot L.length (obC L vs)) (z4 : ∀ (i : Nat) x l, vs[i]? = some x → L[i]? = some l → OwnW wr B0 42 x l.fs)
    (z5 : ∀ (i j : Nat) x y, i ≠ j → vs[i]? = some x → vs[j]? = some y → x.ownBlock = none ∨ x.ownBlock ≠ y.ownBlock)
    (oy : OwnW W1 wr.heap.size 42 y o.fs) (b1 : Below wr.heap.size wr W1) (hown : W3.ownsRow B0 85 2 v n (obC L vs ++ [i64 o.ty, y])) (hgr : (W1.alloc (.cells #[i64 o.ty, y] 85)).grownBy W3 ot.ownBlock)
    (q1 : Bx wr a 31 cs1) (q2 : Bx wr b 31 cs2) (q3 : Bx wr p 31 #[xt, ot, ys]) (oT : OwnT wr B0 xt T) (oS : OwnS wr B0 37 ys S) (B : Below B0 w wr) (hB : B0 ≤ wr.heap.size) (ha : a ≠ p) (hb : b ≠ p) (hp : B0 ≤ p) {q : Nat} {tq : TypeId} {cs4 : Array Value} (q4 : Bx wr q tq cs4) (hq : ot.ownBlock = none ∨ ot.ownBlock ≠ some q) (hqp : q ≠ p) :
    (W3.cell? ⟨p, 1, none⟩ = some ot ∧ W3.frozen? ⟨p, 1, none⟩ = false) ∧ OwnO (W3.setCell ⟨p, 1, none⟩ v) B0 v (L ++ [o]) ∧ Bx (W3.setCell ⟨p, 1, none⟩ v) a 31 cs1 ∧ Bx (W3.setCell ⟨p, 1, none⟩ v) b 31 cs2 ∧ Bx (W3.setCell ⟨p, 1, none⟩ v) p 31 #[xt, v, ys] ∧
      OwnT (W3.setCell ⟨p, 1, none⟩ v) B0 xt T ∧ OwnS (W3.setCell ⟨p, 1, none⟩ v) B0 37 ys S ∧ Below B0 w (W3.setCell ⟨p, 1, none⟩ v) ∧ Bx W3 q tq cs4 ∧ Bx (W3.setCell ⟨p, 1, none⟩ v) q tq cs4 := by
  have b2 : Below wr.heap.size wr (W1.alloc (.cells #[i64 o.ty, y] 85)) := b1.alloc b1.size _
  have z2' := own_below z2 b2
  have nx := fun {g : Nat} {cs : Array Value} (hq : Bx (W1.alloc (.cells #[i64 o.ty, y] 85)) g 31 cs) => Bx.grown hq hgr (own_not_bx z2' hq (by decide))
  have r1 := nx (q1.below b2); have r2 := nx (q2.below b2); have r3 := nx (q3.below b2)
  have oS' : OwnS W3 B0 37 ys S := World.ownsRow.kept (own_below oS b2) hgr (own_unlike (own_below oS b2) z2' (by decide))
  have oT' : OwnT W3 B0 xt T := (oT.below b2).kept z2' hgr (by decide) (by decide)
  have oO : OwnO W3 B0 v (L ++ [o]) := OwnO.snoc z1 z2' hown (fun i x l h5 h6 => OwnW.below (z4 i x l h5 h6) b2) z5 (OwnW.below (own_mono oy hB) ((Below.refl _ W1).alloc (Nat.le_refl _) _))
    (fun i x hx => own_ne (z4 i x _ hx (List.getElem?_eq_getElem (by have := (List.getElem?_eq_some_iff.1 hx).1; omega))) oy (Nat.le_refl _)) hgr
  have B3 : Below B0 w W3 := (B.trans (b2.mono hB)).grown hgr (Nat.le_trans hB b2.size) (fun k hk => (z2'.lt k hk).1)
  refine ⟨⟨r3.cell 1, r3.free 1⟩, oO.set r3 (by decide) (by decide), r1.far (p := ⟨p, 1, none⟩) ha _, r2.far (p := ⟨p, 1, none⟩) hb _, ?_, oT'.set r3 (by decide) (by decide), own_set oS' r3 (by decide), B3.setCell (p := ⟨p, 1, none⟩) hp _, (q4.below b2).grown hgr hq, ((q4.below b2).grown hgr hq).far (p := ⟨p, 1, none⟩) hqp _⟩
  have := r3.set (i := 1) v
  simpa using this
/-- a literal of one object -/
theorem lit_obj {w : World} {ty : Int} {x : Value} : Rd (w.alloc (.cells #[i64 ty, x] 85)) 2 (.slice (some ⟨w.heap.size, 0, none⟩) 1 1) 1 [i64 ty, x] := lit_rdK (n := 1) (sz := 2) rfl (by omega)
theorem one_obj {ty : Int} {x : Value} (h : x.oneCell' = true) : ∀ u ∈ [i64 ty, x], u.oneCell' = true := by
  intro u hu
  rcases List.mem_cons.1 hu with rfl | hu
  · rfl
  · simp at hu; subst hu; exact h
theorem OwnM.set {w : World} {B p i : Nat} {tv ov sv u : Value} {m : Mo} {cs : Array Value} (h : OwnM w B 37 tv ov sv m) (hg : Bx w p 31 cs) : OwnM (w.setCell ⟨p, i, none⟩ u) B 37 tv ov sv m :=
  ⟨h.t.set hg (by decide) (by decide), h.o.set hg (by decide) (by decide), own_set h.s hg (by decide)⟩
/-- a model's three cells are stored elsewhere -/
theorem OwnM.set3 {w : World} {B p : Nat} {tv ov sv a b c : Value} {m : Mo} {cs : Array Value} (h : OwnM w B 37 tv ov sv m) (hg : Bx w p 31 cs) :
    OwnM (((w.setCell ⟨p, 0, none⟩ a).setCell ⟨p, 1, none⟩ b).setCell ⟨p, 2, none⟩ c) B 37 tv ov sv m :=
  ((h.set hg).set (hg.set a)).set ((hg.set a).set b)
end Go.Proofs.YtmbokdnndlnjkaaGreat
namespace Go.Proofs.YtmbokdnndlnjkaaGreat
open Go.RowKit L02 L13 L18 L20
structure GCopy where
  y : Value
  W1 : World
  v : Value
  W3 : World
end Go.Proofs.YtmbokdnndlnjkaaGreat
namespace Go.Proofs.YtmbokdnndlnjkaaGreat
open Go.RowKit L02 L13 L18 L20
end Go.Proofs.YtmbokdnndlnjkaaGreat
namespace Go.Proofs.YtmbokdnndlnjkaaGreat
open Go.RowKit L02 L13 L18 L20
end Go.Proofs.YtmbokdnndlnjkaaGreat
namespace Go.Proofs.YtmbokdnndlnjkaaGreat
open Go.RowKit L02 L13 L18 L20
end Go.Proofs.YtmbokdnndlnjkaaGreat
namespace Go.Proofs.YtmbokdnndlnjkaaGreat
open Go Go.RowKit
section
variable {P : Program} {ops : Array Oper} {md : Region.Mode}
/-- a number of nn yields its value, whatever its world; the others as they do -/
def YieldsM (P : Program) (md : Region.Mode) (ops : Array Oper) (C : Array Bool → World → Prop) (nn : Nat → Bool) (x : Nat → Value) (i : Nat) (o : Oper) (v : Value) (a : Act) : Prop :=
  (nn i = true ∧ v = x i ∧ Region.wanted o (yielded ops a.tmps) = true) ∨ (nn i = false ∧ YieldsV P md ops C i o v a)
theorem YieldsM.of_same {C : Array Bool → World → Prop} {nn : Nat → Bool} {x : Nat → Value} {i : Nat} {o : Oper} {v : Value} {a a' : Act} (hy : YieldsM P md ops C nn x i o v a) (he : execOp a'.eval o = execOp a.eval o)
    (hw : Region.wanted o (yielded ops a'.tmps) = Region.wanted o (yielded ops a.tmps)) : YieldsM P md ops C nn x i o v a' := by
  rcases hy with ⟨h1, h2, h3⟩ | ⟨h1, h2⟩
  · exact .inl ⟨h1, h2, by rw [hw]; exact h3⟩
  · exact .inr ⟨h1, h2.of_same he hw⟩
/-- T a: what the operation k0 does at the act a -/
def qOpM (P : Program) (md : Region.Mode) (ops : Array Oper) (C : Array Bool → World → Prop) (nn : Nat → Bool) (x : Nat → Value) (T : Nat → Sem Next → Prop) (i : Nat) (K : Act → Prop) (a : Act) : Prop :=
  match ops[i]? with
  | none => False
  | some o => ∃ v, (YieldsM P md ops C nn x i o v a ∧ (nn i = true → T i (execOp a.eval o))) ∧ K (a.put o.dst v)
variable {C : Array Bool → World → Prop} {nn : Nat → Bool} {x : Nat → Value} {T : Nat → Sem Next → Prop}
theorem qOpM_mono {i : Nat} {a : Act} {K K' : Act → Prop} (h : ∀ a, K a → K' a) (hh : qOpM P md ops C nn x T i K a) : qOpM P md ops C nn x T i K' a := by
  unfold qOpM at *
  split
  · rename_i ho; simp only [ho] at hh
  · rename_i o ho
    simp only [ho] at hh
    obtain ⟨v, h1, h2⟩ := hh
    exact ⟨v, h1, h _ h2⟩
theorem qOpM_put {i j : Nat} {oi oj : Oper} {v : Value} (hj : ops[j]? = some oj) (hap : oi.apart ops oj = true)
    (hsi : ∀ cs b, oi.op ≠ .select cs b) (hsj : ∀ cs b, oj.op ≠ .select cs b) {K : Act → Prop} {a : Act}
    (hy : YieldsM P md ops C nn x i oi v a ∧ (nn i = true → T i (execOp a.eval oi))) (h : qOpM P md ops C nn x T j K (a.put oi.dst v)) :
    qOpM P md ops C nn x T j (fun a' => (YieldsM P md ops C nn x i oi v a' ∧ (nn i = true → T i (execOp a'.eval oi))) ∧ K (a'.put oi.dst v)) a := by
  obtain ⟨h1, h2, h3⟩ := Oper.apart_spec hap
  unfold qOpM at *
  simp only [hj] at *
  obtain ⟨u, ⟨hu, hu2⟩, hn⟩ := h
  refine ⟨u, ⟨hu.of_same ?_ ?_, fun e => ?_⟩, ⟨hy.1.of_same ?_ ?_, fun e => ?_⟩, ?_⟩
  · exact (execOp_put oj hsj a oi.dst v h1).symm
  · exact (wanted_put oj a oi.dst v h1).symm
  · have := hu2 e; rwa [execOp_put oj hsj a oi.dst v h1] at this
  · exact execOp_put oi hsi a oj.dst u h3
  · exact wanted_put oi a oj.dst u h3
  · have := hy.2 e; rwa [execOp_put oi hsi a oj.dst u h3]
  · rw [← Act.put_comm a v u h2]; exact hn
/-- the walk in the order of the text, number k first -/
def wpM (P : Program) (md : Region.Mode) (ops : Array Oper) (C : Array Bool → World → Prop) (nn : Nat → Bool) (x : Nat → Value) (T : Nat → Sem Next → Prop) (Q : Act → Prop) : List Oper → Nat → Act → Prop
  | [], _, a => Q a
  | o :: rest, k, a => ∃ v, (YieldsM P md ops C nn x k o v a ∧ (nn k = true → T k (execOp a.eval o))) ∧ wpM P md ops C nn x T Q rest (k + 1) (a.put o.dst v)
def uponN (P : Program) (Post : Value → World → Prop) : Result Next → Prop
  | .ok (.value u) w' => Post u w'
  | .ok (.enter f args) w' => Calls P f args w' (fun e w'' => ∃ u, e = .returned u ∧ Post u w'')
  | _ => False
theorem uponN_mono {P : Program} {Post Post' : Value → World → Prop} {r : Result Next} (h : ∀ v w, Post v w → Post' v w) (hr : uponN P Post r) : uponN P Post' r := by
  cases r with
  | ok n w' =>
    cases n <;> simp only [uponN] at hr ⊢
    case value u => exact h _ _ hr
    case enter f args => exact hr.mono fun e w'' ⟨u, he, hp⟩ => ⟨u, he, h _ _ hp⟩
  | halt y w' => simp only [uponN] at hr
end
section
variable {P : Program} {ops : Array Oper} {rest : List Oper} {o : Oper} {a : Act} {Q : Act → Prop} {F : (Nat → Bool) → World → Prop} {js : List Nat} {k : Nat} {nn : Nat → Bool} {md : Region.Mode} {x : Nat → Value} {T : Nat → Sem Next → Prop}
end
end Go.Proofs.YtmbokdnndlnjkaaGreat
namespace Go.Proofs.YtmbokdnndlnjkaaGreat
open Go.RowKit L02 L13 L18 L20
structure GMod where
  t : Value
  o : Value
  s : Value
  W1 : World
def GMod.val (g : GMod) : Value := .agg #[g.t, g.o, g.s]
end Go.Proofs.YtmbokdnndlnjkaaGreat
namespace Go.Proofs.YtmbokdnndlnjkaaGreat
open Go.RowKit L02 L13 L18 L20
theorem tabL_set (S : List Sl) (k : Nat) (s : Sl) (hk : k < S.length) : (((tabL S).set (k * 3) (.int .i64 s.gen)).set (k * 3 + 1) (.bool s.used)).set (k * 3 + 2) (.int .i64 s.at_) = tabL (S.set k s) := by
  apply List.ext_getElem?
  intro i
  by_cases hi : i < S.length * 3
  · obtain ⟨q, r, hr, rfl⟩ : ∃ q r, r < 3 ∧ i = q * 3 + r := ⟨i / 3, i % 3, Nat.mod_lt _ (by omega), by omega⟩
    have hq : q < S.length := by omega
    by_cases hqk : q = k
    · subst hqk
      have h1 := tabL_get (S.set q s) q s (by simp [hq]) r hr
      rw [h1]
      have hl : (tabL S).length = S.length * 3 := tabL_len S
      have : r = 0 ∨ r = 1 ∨ r = 2 := by omega
      rcases this with rfl | rfl | rfl
      · rw [List.getElem?_set_ne (by omega), List.getElem?_set_ne (by omega), Nat.add_zero, List.getElem?_set_self (by omega)]; rfl
      · rw [List.getElem?_set_ne (by omega), List.getElem?_set_self (by simp; omega)]; rfl
      · rw [List.getElem?_set_self (by simp; omega)]; rfl
    · have hs : S[q]? = some S[q] := List.getElem?_eq_getElem hq
      have h1 := tabL_get (S.set k s) q S[q] (by rw [List.getElem?_set_ne (Ne.symm hqk)]; exact hs) r hr
      have h2 := tabL_get S q S[q] hs r hr
      rw [h1, List.getElem?_set_ne (by omega), List.getElem?_set_ne (by omega), List.getElem?_set_ne (by omega), h2]
  · rw [List.getElem?_eq_none (by simp [tabL_len]; omega), List.getElem?_eq_none (by simp [tabL_len]; omega)]
theorem OwnS.form {w : World} {B E : Nat} {v : Value} {S : List Sl} (h : OwnS w B E v S) (hn : 0 < S.length) : ∃ g n c, v = .slice (some ⟨g, 0, none⟩) n c ∧ n = S.length := by
  obtain ⟨g, cap, cur, hv, _⟩ := own_form h hn
  exact ⟨g, _, cap, hv, rfl⟩
theorem OwnS.cells {w : World} {B E g n c k : Nat} {S : List Sl} {s : Sl} (h : OwnS w B E (.slice (some ⟨g, 0, none⟩) n c) S) (hs : S[k]? = some s) :
    (∀ W, (Instr.indexAt 29 (.slice (some ⟨g, 0, none⟩) n c) (.int .i64 (k : Int))).run Tryz.prog W = .ok (.pointer (some ⟨g, k * 3, none⟩)) W) ∧ w.cell? ⟨g, k * 3, none⟩ = some (.int .i64 s.gen) ∧ w.cell? ⟨g, k * 3 + 1, none⟩ = some (.bool s.used) ∧ w.cell? ⟨g, k * 3 + 2, none⟩ = some (.int .i64 s.at_) := by
  have hk : k < S.length := (List.getElem?_eq_some_iff.1 hs).1
  have t0 := Rd.cell (OwnS.rd h) (tabL_get S k s hs 0 (by omega))
  have t1 := Rd.cell (OwnS.rd h) (tabL_get S k s hs 1 (by omega))
  have t2 := Rd.cell (OwnS.rd h) (tabL_get S k s hs 2 (by omega))
  refine ⟨fun W => ?_, ?_, ?_, ?_⟩
  · have := Rd.ixN (P := Tryz.prog) (OwnS.rd h) Tryz.underlying29 size_slot hk W
    simpa [cellAt] using this
  · simpa [cellAt] using t0
  · simpa [cellAt] using t1
  · simpa [cellAt] using t2
/-- a model's own slots changed, all else kept -/
theorem OwnM.slots {w W : World} {B g n c : Nat} {tv ov : Value} {m : Mo} {S : List Sl} (h : OwnM w B 37 tv ov (.slice (some ⟨g, 0, none⟩) n c) m) (hg : w.grownBy W (some g)) (hS : OwnS W B 37 (.slice (some ⟨g, 0, none⟩) n c) S) :
    OwnM W B 37 tv ov (.slice (some ⟨g, 0, none⟩) n c) ⟨m.types, m.objs, S⟩ := by
  refine ⟨OwnT.kept h.t h.s hg (by decide) (by decide), ?_, hS⟩
  obtain ⟨vs, a1, a2, a4, a5⟩ := h.o
  exact ⟨vs, a1, World.ownsRow.kept a2 hg (own_unlike a2 h.s (by decide)), fun i x l h5 h6 => World.ownsRow.kept (a4 i x l h5 h6) hg (own_unlike (a4 i x l h5 h6) h.s (by decide)), a5⟩
/-- all old blocks but one are as they were -/
def Keep (w w' : World) (row : Option Nat) : Prop := w.heap.size ≤ w'.heap.size ∧ ∀ k, k < w.heap.size → some k ≠ row → w'.heap[k]? = w.heap[k]?
theorem Keep.grown {w w' w'' : World} {row : Option Nat} (h : Keep w w' row) (hg : w'.grownBy w'' row) : Keep w w'' row := ⟨Nat.le_trans h.1 hg.size, fun k hk hr => (hg.block k (Nat.lt_of_lt_of_le hk h.1) hr).trans (h.2 k hk hr)⟩
theorem Keep.setCell {w w' : World} {row : Option Nat} (h : Keep w w' row) {p : Addr} (hp : w.heap.size ≤ p.block) (u : Value) : Keep w (w'.setCell p u) row :=
  ⟨by simpa [World.setCell] using h.1, fun k hk hr => (Below.heap_setCell w' p u k (by omega)).trans (h.2 k hk hr)⟩
theorem Bx.keep {w w' : World} {g : Nat} {t : TypeId} {cs : Array Value} {row : Option Nat} (h : Bx w g t cs) (hk : Keep w w' row) (hne : row = none ∨ row ≠ some g) : Bx w' g t cs := by
  have hl := h.lt
  unfold Bx at *
  rw [hk.2 g hl (by rcases hne with rfl | h; · simp
                    · exact fun e => h e.symm)]
  exact h
end Go.Proofs.YtmbokdnndlnjkaaGreat
namespace Go.Proofs.YtmbokdnndlnjkaaGreat
open Go.RowKit L02 L13 L18 L20
/-- the number of a slot is stored -/
theorem OwnS.put1 {w : World} {B E g n c k : Nat} {S : List Sl} {s : Sl} (h : OwnS w B E (.slice (some ⟨g, 0, none⟩) n c) S) (hs : S[k]? = some s) (a : Int) :
    OwnS (w.setCell ⟨g, k * 3 + 2, none⟩ (.int .i64 a)) B E (.slice (some ⟨g, 0, none⟩) n c) (S.set k ⟨s.gen, s.used, a⟩) ∧
      w.grownBy (w.setCell ⟨g, k * 3 + 2, none⟩ (.int .i64 a)) (some g) ∧ B ≤ g ∧ g < w.heap.size ∧ ∀ j, w.frozen? ⟨g, j, none⟩ = false := by
  have hk : k < S.length := (List.getElem?_eq_some_iff.1 hs).1
  have hn : n = S.length := by
    obtain ⟨g', cap, cur, hv, _⟩ := own_form h (by omega)
    injection hv
  subst hn
  have h3 := World.ownsRow.stored h (k * 3 + 2) (.int .i64 a)
  have hl := h.lt g rfl
  have hsame : ∀ i : Nat, i < 3 → ∀ u, (slC s)[i]? = some u → (tabL S).set (k * 3 + i) u = tabL S := by
    intro i hi u hu
    have t0 := tabL_get S k s hs i hi
    rw [hu] at t0
    apply List.ext_getElem?
    intro j
    by_cases hj : j = k * 3 + i
    · subst hj
      rw [List.getElem?_set_self (List.getElem?_eq_some_iff.1 t0).1, t0]
    · rw [List.getElem?_set_ne (Ne.symm hj)]
  have h0 := hsame 0 (by omega) (.int .i64 s.gen) rfl
  have h1 := hsame 1 (by omega) (.bool s.used) rfl
  rw [Nat.add_zero] at h0
  refine ⟨?_, h3.2, hl.1, hl.2, fun j => h.frozenAt j⟩
  unfold OwnS
  rw [← tabL_set S k ⟨s.gen, s.used, a⟩ hk, List.length_set]
  show World.ownsRow _ _ _ _ _ _ ((((tabL S).set (k * 3) (.int .i64 s.gen)).set (k * 3 + 1) (.bool s.used)).set (k * 3 + 2) (.int .i64 a))
  rw [h0, h1]
  exact h3.1
theorem own_ne_bx {w : World} {B e sz n n' p g c : Nat} {xs : List Value} {t : TypeId} {cs : Array Value} (h : w.ownsRow B e sz (.slice (some ⟨g, 0, none⟩) n c) n' xs) (hg : Bx w p t cs) (hne : e ≠ t) : g ≠ p := by
  rintro rfl
  rcases own_not_bx h hg hne with h | h
  · cases h
  · exact h rfl
end Go.Proofs.YtmbokdnndlnjkaaGreat
namespace Go.Proofs.YtmbokdnndlnjkaaGreat
open Go.RowKit L01 L02 L05 L06 L07 L13 L14 L15 L16 L18 L19
set_option maxRecDepth 100000 in
theorem SlotsR_any (v : Value) (l : List UInt64) (hs : SizeOk l.length) (L : List Sl) (hL : L = all l) (w : World) (h : Words w v l) :
    Calls Tryz.prog 76 #[v] w fun e w' => ∃ x, e = .returned x ∧ OwnS w' w.heap.size 37 x L ∧ Below w.heap.size w w' := by
  have T := Lib.hid (ToldR_any v l hs L _ hL rfl w h)
  clear hL h hs
  go_enter Tryz.func76, Tryz.ntmps76
  go_wp2_with fail
  refine T.out.mono ?_
  rintro e w2 ⟨x, rfl, o, b⟩
  have HO := Lib.hid (And.intro o b)
  clear o b
  go_wp2
  go_ret
  exact ⟨_, rfl, HO.out⟩
/-- the heap is one free extent -/
def whole (L : List Hb) : Bool := match L with | [b] => decide (b.kind = 2) | _ => false
end Go.Proofs.YtmbokdnndlnjkaaGreat
namespace Go.Proofs.YtmbokdnndlnjkaaGreat
open Go Go.RowKit
section
variable {P : Program} {ops : Array Oper} {w : World}
theorem wpStill_of_quiet {Q : Act → Prop} : ∀ (l : List Oper) (a : Act), wpQuiet P ops (fun W => W = w) Q l a → wpStill P ops w Q l a
  | [], a, h => h
  | o :: l, a, h => by
    unfold wpQuiet at h
    unfold wpStill
    by_cases hw : Region.wanted o (yielded ops a.tmps) = true
    · rw [if_pos hw] at h ⊢
      obtain ⟨v, h1, h2⟩ := h
      have h3 := h1 w rfl
      have h4 := wpStill_of_quiet l _ h2
      unfold Oper.quietAt at h3
      unfold Oper.still
      cases hr : (execOp a.eval o).run P w with
      | ok n w' =>
        rw [hr] at h3
        cases n with
        | value u => obtain ⟨e1, e2⟩ := h3; subst e2; exact ⟨e1, h4⟩
        | skip => obtain ⟨e1, e2⟩ := h3; subst e2; exact ⟨e1, h4⟩
        | enter f args => obtain ⟨e1, e2⟩ := h3; exact ⟨e1, v, e2, h4⟩
        | _ => exact absurd h3 id
      | halt x w' => rw [hr] at h3; exact absurd h3 id
    · rw [if_neg hw] at h ⊢
      exact wpStill_of_quiet l _ h
theorem wp_region_qtail {id : Nat} {Q : Exit → Act → World → Prop} {a : Act} {l : List Oper} (n : Nat) (hm : P.follows .mixedOrders = true) (hB : Region.lexTailB .any l.toArray n = true)
    (h : wpQuiet P l.toArray (fun W => W = w.drew) (fun a' => wpList P l.toArray Q (l.drop n) a' w.drew) (l.take n) a) : (Code.region id l.toArray true).wp P Q a w :=
  wp_region_still_tail n hm hB (wpStill_of_quiet _ _ h)
end
end Go.Proofs.YtmbokdnndlnjkaaGreat
