/- Contracts of the functions that the laws 'O' reach, part 18. No condition. -/
import Derived.Test.YtodbbacmdjcheaaMOp
set_option linter.unusedVariables false
set_option linter.unusedSimpArgs false
namespace Go.Proofs.Ytodbbacmdjcheaa
open Go Go.RowKit
section
variable {P : Program} {ops : Array Oper} {md : Region.Mode}
/-- a number of nn yields its value, whatever its world; the others as they do -/
def YieldsM (P : Program) (md : Region.Mode) (ops : Array Oper) (C : Array Bool → World → Prop) (nn : Nat → Bool) (x : Nat → Value) (i : Nat) (o : Oper) (v : Value) (a : Act) : Prop :=
  (nn i = true ∧ v = x i ∧ Region.wanted o (yielded ops a.tmps) = true) ∨ (nn i = false ∧ YieldsV P md ops C i o v a)
theorem YieldsM.of_same {C : Array Bool → World → Prop} {nn : Nat → Bool} {x : Nat → Value} {i : Nat} {o : Oper} {v : Value} {a a' : Act} (hy : YieldsM P md ops C nn x i o v a) (he : execOp a'.eval o = execOp a.eval o)
    (hw : Region.wanted o (yielded ops a'.tmps) = Region.wanted o (yielded ops a.tmps)) : YieldsM P md ops C nn x i o v a' := by
  rcases hy with ⟨h1, h2, h3⟩ | ⟨h1, h2⟩
  · exact .inl ⟨h1, h2, by rw [hw]; exact h3⟩
  · exact .inr ⟨h1, h2.of_same he hw⟩
variable {C : Array Bool → World → Prop} {nn : Nat → Bool} {x : Nat → Value} {T : Nat → Sem Next → Prop}
def uponN (P : Program) (Post : Value → World → Prop) : Result Next → Prop
  | .ok (.value u) w' => Post u w'
  | .ok (.enter f args) w' => Calls P f args w' (fun e w'' => ∃ u, e = .returned u ∧ Post u w'')
  | _ => False
end
section
variable {P : Program} {ops : Array Oper} {rest : List Oper} {o : Oper} {a : Act} {Q : Act → Prop} {F : (Nat → Bool) → World → Prop} {js : List Nat} {k : Nat} {nn : Nat → Bool} {md : Region.Mode} {x : Nat → Value} {T : Nat → Sem Next → Prop}
end
end Go.Proofs.Ytodbbacmdjcheaa
namespace Go.Proofs.Ytodbbacmdjcheaa
open Go Go.RowKit
section
variable {P : Program} {ops : Array Oper} {md : Region.Mode} {C : Array Bool → World → Prop} {nn : Nat → Bool} {x : Nat → Value} {T : Nat → Sem Next → Prop}
end
/-- a world behind w, of which p holds besides -/
structure FutP (w : World) (p : World → Prop) where
  W : World
  h : Below w.heap.size w W
  hp : p W
section
variable {P : Program} {ops : Array Oper} {rest : List Oper} {o : Oper} {a : Act} {Q : Act → Prop} {k : Nat} {md : Region.Mode} {T : Nat → Sem Next → Prop} {w : World} {ns : List Nat} {dep : Nat → List Nat} {Φ : Nat → (Nat → Value) → World → Prop} {g : Nat → Value}
end
/-- what a fresh operation does: no old block is changed; its value is of the shape V, and Φ is known of it -/
def TS (P : Program) (w : World) (dep : Nat → List Nat) (V : Nat → Value → Prop) (Φ : Nat → (Nat → Value) → World → Prop) (g : Nat → Value) (k : Nat) (s : Sem Next) : Prop :=
  ∀ W, Below w.heap.size w W → (∀ j ∈ dep k, Φ j g W) → uponN P (fun v W' => V k v ∧ Below W.heap.size W W' ∧ ∀ g', g' k = v → (∀ j ∈ dep k, g' j = g j) → Φ k g' W') (s.run P W)
section
variable {P : Program} {w : World} {dep : Nat → List Nat} {V : Nat → Value → Prop} {Φ : Nat → (Nat → Value) → World → Prop} {g : Nat → Value} {k : Nat} {o : Oper} {a : Act}
/-- a call -/
theorem TS.call {f : FuncId} {xs : Array Operand} {ats : Array TypeId} {dst : Option Tmp} {ty : TypeId} {pos : String} {after : Array Edge} {gd : Option (Nat × Bool)} {av : Array Value} (hav : xs.map a.eval = av) (hf : ∀ W, (callFunc f (#[] ++ av ++ #[])).run P W = .ok (.enter f av) W)
    (h : ∀ W, Below w.heap.size w W → (∀ j ∈ dep k, Φ j g W) → Calls P f av W fun e W' => ∃ v, e = .returned v ∧ V k v ∧ Below W.heap.size W W' ∧ ∀ g', g' k = v → (∀ j ∈ dep k, g' j = g j) → Φ k g' W') :
    TS P w dep V Φ g k (execOp a.eval ⟨dst, .call ⟨.value (.func f), xs, ats⟩, ty, pos, after, gd⟩) := by
  intro W hW hd
  rw [execOp_call_go, hav, hf]
  exact h W hW hd
/-- what yields a value -/
theorem TS.val {s : Sem Next} (h : ∀ W, Below w.heap.size w W → (∀ j ∈ dep k, Φ j g W) → ∃ v W', s.run P W = .ok (.value v) W' ∧ V k v ∧ Below W.heap.size W W' ∧ ∀ g', g' k = v → (∀ j ∈ dep k, g' j = g j) → Φ k g' W') : TS P w dep V Φ g k s := by
  intro W hW hd
  obtain ⟨v, W', h1, h2⟩ := h W hW hd
  rw [h1]; exact h2
/-- a slice is made -/
theorem TS.make {t : TypeId} {l c : Operand} (ho : o.op = .makeSlice t l c) {lv cv : Value} (hl : a.eval l = lv) (hc : a.eval c = cv)
    (h : ∀ W, Below w.heap.size w W → (∀ j ∈ dep k, Φ j g W) → ∃ v W', (Instr.makeSlice t lv cv).run P W = .ok v W' ∧ V k v ∧ Below W.heap.size W W' ∧ ∀ g', g' k = v → (∀ j ∈ dep k, g' j = g j) → Φ k g' W') : TS P w dep V Φ g k (execOp a.eval o) := by
  refine TS.val fun W hW hd => ?_
  obtain ⟨v, W', h1, h2⟩ := h W hW hd
  refine ⟨v, W', ?_, h2⟩
  simp [execOp, ho, hl, hc, h1]
/-- what is run for a value -/
theorem TS.sem {s : Sem Value} (hs : execOp a.eval o = (do pure (Next.value (← s)))) (h : ∀ W, Below w.heap.size w W → (∀ j ∈ dep k, Φ j g W) → ∃ v W', s.run P W = .ok v W' ∧ V k v ∧ Below W.heap.size W W' ∧ ∀ g', g' k = v → (∀ j ∈ dep k, g' j = g j) → Φ k g' W') : TS P w dep V Φ g k (execOp a.eval o) := by
  refine TS.val fun W hW hd => ?_
  obtain ⟨v, W', h1, h2⟩ := h W hW hd
  refine ⟨v, W', ?_, h2⟩
  rw [hs, Sem.run_bind, h1]; rfl
end
/-- the same with one fresh operation, which makes one block -/
def ΦB (b k0 : Nat) (mk : Nat → Value) (t : TypeId) (cs : Array Value) (k : Nat) (g : Nat → Value) (W : World) : Prop := k = k0 → ∃ p, g k0 = mk p ∧ Bx W p t cs ∧ b ≤ p
def VB (mk : Nat → Value) (_k : Nat) (v : Value) : Prop := ∃ p, v = mk p
theorem TS.block {P : Program} {w : World} {mk : Nat → Value} {t : TypeId} {cs : Array Value} {g : Nat → Value} {k0 : Nat} {o : Oper} {a : Act} (s : Sem Value) (hs : execOp a.eval o = (do pure (Next.value (← s)))) (hr : ∀ W, s.run P W = .ok (mk W.heap.size) (W.alloc (.cells cs t))) :
    TS P w (fun _ => []) (VB mk) (ΦB w.heap.size k0 mk t cs) g k0 (execOp a.eval o) :=
  TS.sem hs fun W hW _ => ⟨_, _, hr W, ⟨_, rfl⟩, (Below.refl _ _).alloc (Nat.le_refl _) _, fun g' hg' _ _ => ⟨_, hg', Bx.new _ _ _, hW.size⟩⟩
end Go.Proofs.Ytodbbacmdjcheaa
namespace Go.Proofs.Ytodbbacmdjcheaa
open Go.RowKit L01 L02 L05 L06 L07 L13 L14 L15 L16 L18 L19
theorem tabB_cons (b : Hb) (L : List Hb) : tabB (b :: L) = bkL b ++ tabB L := by simp [tabB]
theorem tabB_drop : ∀ (L : List Hb) (k : Nat), tabB (L.drop k) = (tabB L).drop (k * 6)
  | L, 0 => by simp
  | [], k + 1 => by simp [tabB]
  | b :: L, k + 1 => by
    rw [List.drop_succ_cons, tabB_drop L k, tabB_cons, show (k + 1) * 6 = (bkL b).length + k * 6 by simp [bkL]; omega, List.drop_append, List.drop_of_length_le (l := bkL b) (by omega), Nat.add_sub_cancel_left, List.nil_append]
theorem tabB_take : ∀ (L : List Hb) (k : Nat), tabB (L.take k) = (tabB L).take (k * 6)
  | L, 0 => by simp [tabB]
  | [], k + 1 => by simp [tabB]
  | b :: L, k + 1 => by
    rw [List.take_succ_cons, tabB_cons, tabB_take L k, tabB_cons, show (k + 1) * 6 = (bkL b).length + k * 6 by simp [bkL]; omega, List.take_append, List.take_of_length_le (l := bkL b) (by omega), Nat.add_sub_cancel_left]
theorem Blks.cut {w : World} {v : Value} {L : List Hb} (h : Blks w v L) {lo hi : Nat} (h1 : lo ≤ hi) (h2 : hi ≤ L.length) :
    ∃ v', (∀ W, (Instr.sliceAt 92 v (some (.int .i64 (lo : Int))) (some (.int .i64 (hi : Int))) none).run Try.prog W = .ok v' W) ∧ Blks w v' ((L.drop lo).take (hi - lo)) := by
  obtain ⟨v', r1, _, _, r2, _⟩ := Rd.cutN h Try.underlying92 size_block h1 h2
  refine ⟨v', r1, ?_⟩
  unfold Blks
  rw [tabB_take, tabB_drop, List.length_take, List.length_drop, Nat.min_eq_left (by omega)]
  exact r2
theorem sumN_snoc (M : List Hb) (b : Hb) : sumN (M ++ [b]) = sumN M + b.size := by
  induction M with
  | nil => simp [sumN]
  | cons c M ih => rw [List.cons_append, sumN, sumN, ih]; omega
end Go.Proofs.Ytodbbacmdjcheaa
namespace Go.Proofs.Ytodbbacmdjcheaa.L19
open L02 L07 L13 L14 L15 L16 L18 L20
def sumE (l : List UInt64) : Int := if allErr l = 0 then sumN (freeL l) else 0
theorem sum_bound : ∀ {F : List Hb} {j : Nat}, (∀ c ∈ F, 0 ≤ c.size ∧ c.size ≤ 2000) → F.length ≤ j → 0 ≤ sumN F ∧ sumN F ≤ 2000 * j
  | [], j, _, _ => by simp only [sumN]; omega
  | c :: F, j, h, hl => by
    rw [List.length_cons] at hl
    have h1 := sum_bound (F := F) (j := j - 1) (fun c hc => h c (List.mem_cons_of_mem _ hc)) (by omega)
    have h2 := h c List.mem_cons_self
    rw [sumN]; omega
theorem Seg.sum {l : List UInt64} {k q : Nat} {L : List Hb} (h : Seg l k L q) : (q : Int) = k + sumN L := by
  induction h with
  | nil h => simp [sumN]
  | cons hk hs ht ih => rw [sumN, stand_size hs]; omega
end Go.Proofs.Ytodbbacmdjcheaa.L19
namespace Go.Proofs.Ytodbbacmdjcheaa
open Go.RowKit L01 L02 L05 L06 L07 L13 L14 L15 L16 L18 L19
/-- the most words of one extent -/
def mostF : List Hb → Int → Int
  | [], m => m
  | c :: L, m => mostF L (if m < c.size then c.size else m)
theorem mostF_snoc : ∀ (L : List Hb) (c : Hb) (m : Int), mostF (L ++ [c]) m = if mostF L m < c.size then c.size else mostF L m
  | [], c, m => rfl
  | x :: L, c, m => by rw [List.cons_append, mostF, mostF, mostF_snoc L c]
set_option maxRecDepth 100000 in
set_option maxHeartbeats 2000000 in
theorem Words16m_any (v : Value) (l : List UInt64) (n x r : Int) (hn : n = sumE l) (hx : x = mostF (freeL l) 0) (h0 : allErr l = 0) (hr : r = 0) (w : World) (h : Words w v l) :
    Calls Try.prog 23 #[v] w fun e w' => e = .returned (.tuple #[.int .i64 n, .int .i64 x, .int .i64 r]) ∧ Below w.heap.size w w' := by
  have B : Below w.heap.size w w := Below.refl _ _
  have H := Lib.hid h
  obtain ⟨F, hF⟩ : ∃ F, F = freeL l := ⟨_, rfl⟩
  have FT := Lib.hid (fun w h => FreeW_any v l F 0 hF h0.symm w h)
  subst hr
  have hn2 : n = sumN F := by rw [hn, sumE, if_pos h0, hF]
  have hx2 : x = mostF F 0 := by rw [hx, hF]
  have hs : ∀ c ∈ F, 0 ≤ c.size ∧ c.size ≤ 2000 := fun c hc => by
    rw [hF] at hc
    obtain ⟨a, h1, h2, h3, h4, _⟩ := all_mem h0 (free_mem.1 hc).1
    have := (stand_ok h3).bounds
    rw [← h4] at this
    omega
  have hl9 : F.length ≤ 960 := by rw [hF]; exact Nat.le_trans (List.length_filter_le _ _) (all_len h0)
  obtain ⟨N, hN⟩ : ∃ N, N = F.length := ⟨_, rfl⟩
  have hN9 : N ≤ 960 := by omega
  have HN := Lib.hid hN; have HS := Lib.hid hs; have HR := Lib.hid hn2; have HX := Lib.hid hx2
  clear h hn hx h0 hF hs hl9 hN hn2 hx2
  go_enter Try.func23, Try.ntmps23
  go_wp2_with fail
  refine (FT.out _ (H.out.below B)).mono ?_
  rintro e wa1 ⟨xl, rfl, ol, b⟩
  replace B := B.trans (b.mono B.size); clear b
  have lx := ol.rd.len
  rw [← HN.out] at lx
  have HO := Lib.hid ol.rd
  have hB1 := B.size
  have HB := Lib.hid B
  have HBB := Lib.hid (Below.refl wa1.heap.size wa1)
  clear ol B
  go_wp2
  clear lx
  go_loopg [2, 3, 18] N (fun g sv mv i wr => ∃ j : Nat, ∃ mx : Int, j ≤ N ∧ Hid (mx = mostF (F.take j) 0) ∧ g = N - j ∧ sv = .int .i64 (sumN (F.take j)) ∧ mv = .int .i64 mx ∧ i = .int .i64 j ∧ Hid (Below wa1.heap.size wa1 wr))
  case atStart => exact ⟨0, 0, by omega, Lib.hid rfl, by omega, rfl, rfl, rfl, HBB⟩
  case round =>
    obtain ⟨j, mx, hj, hm, rfl, rfl, rfl, rfl, hh⟩ := hrel
    clear HBB
    have B2 := hh.out
    clear hh
    by_cases hlt : j < N
    · obtain ⟨bb, oo, c, ia, m0, m1, m2, m3, m4, m5, hc, _⟩ := (Blks.below HO.out B2).at_ (k := j) (by rw [← HN.out]; exact hlt)
      obtain ⟨z1, z2⟩ := HS.out c (List.mem_of_getElem? hc.out)
      have htk : F.take (j + 1) = F.take j ++ [c] := by rw [List.take_add_one, hc.out]; rfl
      obtain ⟨s, hs⟩ : ∃ s, s = sumN (F.take j) := ⟨_, rfl⟩
      have hsb : 0 ≤ s ∧ s ≤ 2000 * j := by
        rw [hs]
        exact sum_bound (fun c hc => HS.out c (List.mem_of_mem_take hc)) (by rw [List.length_take]; omega)
      rw [← hs]
      have HT := Lib.hid (show sumN (F.take (j + 1)) = s + c.size by rw [htk, sumN_snoc, ← hs])
      have HM := Lib.hid (show mostF (F.take (j + 1)) 0 = if mx < c.size then c.size else mx by rw [htk, mostF_snoc, ← hm.out])
      have hw : IntKind.i64.wrap (s + c.size) = s + c.size := IntWalk.i64_in _ (by omega)
      have B := HB.out.trans (B2.mono hB1)
      clear hc htk hs hsb
      go_upto_region 7 with (fail)
      refine wp_gen (fun Wv => Bx Wv (wr.heap.size) (84) (#[.int .i64 c.at_, .int .i64 c.size, .int .i64 c.kind, .int .i64 c.ty, .bool c.mark, .int .u64 c.next.toNat]) ∧ Below wr.heap.size wr Wv) ⟨((Bx.at_ (by simp))), ((Below.refl _ wr).alloc (by simp <;> omega) _)⟩ ?_
      rintro wa2 ⟨g3, b⟩
      replace B2 := B2.trans (b.mono B2.size); replace B := B.trans (b.mono B.size); clear b
      have c_g3 := g3.cell; have f_g3 := g3.free; have a_g3 := fun o => (g3.alloc o).cell; have d_g3 := fun o o2 => ((g3.alloc o).alloc o2).cell; have e_g3 := fun o => (g3.alloc o).free
      have HZ := Lib.hid B2
      clear B B2
      by_cases hmx : mx < c.size
      · have HK := Lib.hid ((if_pos hmx).symm.trans HM.out.symm)
        go_wp2
        go_roundg (N - (j + 1))
        case measure => omega
        case rel => exact ⟨j + 1, c.size, by omega, HK, rfl, by rw [HT.out], by first | rfl | rw [Int.max_eq_right (by omega)], by go_num, HZ⟩
      · have HK := Lib.hid ((if_neg hmx).symm.trans HM.out.symm)
        go_wp2
        go_roundg (N - (j + 1))
        case measure => omega
        case rel => exact ⟨j + 1, mx, by omega, HK, rfl, by rw [HT.out], by first | rfl | rw [Int.max_eq_left (by omega)], by go_num, HZ⟩
    · obtain rfl : j = N := by omega
      have hfin : sumN (F.take j) = n := by rw [HR.out, HN.out, List.take_length]
      have hfix : mx = x := by rw [HX.out, hm.out, HN.out, List.take_length]
      rw [hfin, hfix]
      have B := HB.out.trans (B2.mono hB1)
      clear hfin hfix B2
      go_wp2
      go_ret3
      exact ⟨rfl, B⟩
end Go.Proofs.Ytodbbacmdjcheaa
namespace Go.Proofs.Ytodbbacmdjcheaa.L77
open L02 L05 L06 L07 L13 L14 L15 L16 L18 L19 L20 L73 L74
variable {n : Nat} {T : List (List UInt8)}
theorem Nw.rSum (h : Nw n T) : sumE (imageP n T) = (n : Int) - 128 := by
  rw [L19.sumE, if_pos h.al, h.free]; show ((n : Int) - 128) + 0 = _; omega
theorem Nw.rNx (h : Nw n T) : next (slots (imageP n T)) = some 0 := by rw [h.slots]; decide +kernel
theorem Nw.rSiz (h : Nw n T) {t : Int} (h0 : 0 ≤ t) (h1 : t < T.length) : (2 : Int) ≤ sizT (tyI (imageP n T) t) ∧ (sizT (tyI (imageP n T) t) : Int) ≤ 10 := by
  have hl : (tyI (imageP n T) t).length ≤ 8 := by
    rw [tyI, h.tyT]
    exact (kErr_ok (h.okD (i := t.toNat) (by omega))).1
  unfold sizT
  omega
theorem Nw.rTk (h : Nw n T) {t : Int} (h0 : 0 ≤ t) (h1 : t < T.length) : takes (freeL (imageP n T)) (sizT (tyI (imageP n T) t)) = some (nwB n) := by
  have hs := (Nw.rSiz h h0 h1).2
  have hn := h.le
  rw [h.free, takes, takesF, takesF, if_pos]
  unfold betterB
  rw [decide_eq_true (show _ ≤ (nwB n).size by show _ ≤ (n : Int) - 128; omega)]; rfl
theorem Nw.rE (h : Nw n T) (t : Int) : aiE (imageP n T) t = if 0 ≤ t ∧ t < T.length then 0 else 2 := by
  rw [L19.aiE, if_pos h.rt.chk, h.tyT]
  by_cases ht : 0 ≤ t ∧ t < T.length
  · rw [if_pos ht, if_pos ht, if_neg (by rw [Nw.rNx h]; simp), if_pos (by rw [Nw.rTk h ht.1 ht.2]; rfl)]
  · rw [if_neg ht, if_neg ht]
theorem Nw.rS (h : Nw n T) {t : Int} (h0 : aiE (imageP n T) t = 0) : aiS (imageP n T) t = 0 ∧ aiG (imageP n T) t = 1 := by
  rw [L19.aiS, if_pos h0, L19.aiG, if_pos h0, aiK, Nw.rNx h, h.slots]; decide +kernel
theorem runE_at : ∀ (xs : List UInt64) (a : Int) (e : Int × UInt64), e ∈ runE a xs → a ≤ e.1 ∧ e.1 < a + xs.length
  | [], _, _, h => by simp [runE] at h
  | x :: xs, a, e, h => by
    rw [runE] at h
    rcases List.mem_cons.1 h with rfl | h
    · exact ⟨by omega, by rw [List.length_cons]; show a < _; omega⟩
    · have := runE_at xs (a + 1) e h
      rw [List.length_cons]; omega
/-- the change: its length, its places -/
theorem Nw.rL (h : Nw n T) {t : Int} (h0 : aiE (imageP n T) t = 0) : ∃ q : Nat, t = q ∧ (∃ x, (aiL (imageP n T) t)[1]? = some ((128 : Int), x)) ∧ 3 ≤ (aiL (imageP n T) t).length ∧ (aiL (imageP n T) t).length ≤ 100 ∧ ∀ e ∈ aiL (imageP n T) t, 0 ≤ e.1 ∧ e.1 < n := by
  have hn := h.le
  have ht : 0 ≤ t ∧ t < T.length := by
    have := Nw.rE h t
    rw [h0] at this
    by_cases ht : 0 ≤ t ∧ t < T.length
    · exact ht
    · rw [if_neg ht] at this; cases this
  obtain ⟨q, rfl⟩ := Int.eq_ofNat_of_zero_le ht.1
  obtain ⟨h2, h10⟩ := Nw.rSiz h ht.1 ht.2
  have hB : aiB (imageP n T) (q : Int) = nwB n := by rw [aiB, Nw.rTk h ht.1 ht.2]; rfl
  have hK : aiK (imageP n T) = 0 := by rw [aiK, Nw.rNx h]; rfl
  obtain ⟨m, hm⟩ : ∃ m, m = sizT (tyI (imageP n T) q) := ⟨_, rfl⟩
  rw [← hm] at h2 h10
  have e : aiL (imageP n T) q = (112 + ((0 : Nat) : Int), pk ⟨((slots (imageP n T)).getD 0 .none).gen + 1, true, (nwB n).at_⟩) :: runE (128 : Int) (newW 128 m q (n - 128)) := by
    rw [L19.aiL, if_pos h0, hB, hK, ← hm, Int.toNat_natCast]
    show _ :: runE (128 : Int) (newW 128 m q ((n : Int) - 128).toNat) = _
    rw [show ((n : Int) - 128).toNat = n - 128 by omega]
  have hlen : (newW 128 m q (n - 128)).length = m + 1 := by rw [newW_len (by omega), if_neg (by omega)]
  refine ⟨q, rfl, ?_, ?_, ?_, fun e' he => ?_⟩
  · rw [e, newW]; exact ⟨_, rfl⟩
  · rw [e, List.length_cons, runE_len, hlen]; omega
  · rw [e, List.length_cons, runE_len, hlen]; omega
  · rw [e] at he
    rcases List.mem_cons.1 he with rfl | he
    · exact ⟨by show (0 : Int) ≤ 112 + ((0 : Nat) : Int); omega, by show (112 : Int) + ((0 : Nat) : Int) < n; omega⟩
    · have := runE_at _ _ _ he
      rw [hlen] at this
      omega
/-- what is there afterwards -/
theorem Nw.rAfter (h : Nw n T) {t : Int} (h0 : aiE (imageP n T) t = 0) : chk19 (L19.made (imageP n T) (aiL (imageP n T) t)) = 0 ∧ ∃ s ∈ slots (L19.made (imageP n T) (aiL (imageP n T) t)), s.used = true := by
  obtain ⟨q, k, p, m, c, g0, b, t', P, S, rfl, al⟩ := Al.of h0
  obtain ⟨_, _, _, rt, _, hs, _⟩ := al.after
  refine ⟨rt.chk, ⟨_, ?_, (rfl : (⟨g0 + 1, true, (p : Int)⟩ : Sl).used = true)⟩⟩
  rw [hs]
  exact List.mem_of_getElem? (List.getElem?_set_self (by rw [h.slots, List.length_replicate]; exact al.hk))
end Go.Proofs.Ytodbbacmdjcheaa.L77
