/- Contracts of the functions that the laws 'H' reach, part 11. No condition. -/
import Derived.Test.YthlappdngpjdeaaMHj
set_option linter.unusedVariables false
set_option linter.unusedSimpArgs false
namespace Go.Proofs.Ythlappdngpjdeaa
open Go Go.RowKit
section
variable {P : Program} {ops : Array Oper} {w : World}
end
end Go.Proofs.Ythlappdngpjdeaa
namespace Go.Proofs.Ythlappdngpjdeaa
open Go Go.RowKit
section
variable {P : Program} {ops : Array Oper} {md : Region.Mode} {C : Array Bool → World → Prop} {nn : Nat → Bool} {x : Nat → Value} {T : Nat → Sem Next → Prop}
end
/-- a world behind w, of which p holds besides -/
structure FutP (w : World) (p : World → Prop) where
  W : World
  h : Below w.heap.size w W
  hp : p W
section
variable {P : Program} {ops : Array Oper} {rest : List Oper} {o : Oper} {a : Act} {Q : Act → Prop} {k : Nat} {md : Region.Mode} {T : Nat → Sem Next → Prop} {w : World} {ns : List Nat} {dep : Nat → List Nat} {Φ : Nat → (Nat → Value) → World → Prop} {g : Nat → Value}
end
/-- what a fresh operation does: no old block is changed; its value is of the shape V, and Φ is known of it -/
def TS (P : Program) (w : World) (dep : Nat → List Nat) (V : Nat → Value → Prop) (Φ : Nat → (Nat → Value) → World → Prop) (g : Nat → Value) (k : Nat) (s : Sem Next) : Prop :=
  ∀ W, Below w.heap.size w W → (∀ j ∈ dep k, Φ j g W) → uponN P (fun v W' => V k v ∧ Below W.heap.size W W' ∧ ∀ g', g' k = v → (∀ j ∈ dep k, g' j = g j) → Φ k g' W') (s.run P W)
section
variable {P : Program} {w : World} {dep : Nat → List Nat} {V : Nat → Value → Prop} {Φ : Nat → (Nat → Value) → World → Prop} {g : Nat → Value} {k : Nat} {o : Oper} {a : Act}
/-- a call -/
theorem TS.call {f : FuncId} {xs : Array Operand} {ats : Array TypeId} {dst : Option Tmp} {ty : TypeId} {pos : String} {after : Array Edge} {gd : Option (Nat × Bool)} {av : Array Value} (hav : xs.map a.eval = av) (hf : ∀ W, (callFunc f (#[] ++ av ++ #[])).run P W = .ok (.enter f av) W)
    (h : ∀ W, Below w.heap.size w W → (∀ j ∈ dep k, Φ j g W) → Calls P f av W fun e W' => ∃ v, e = .returned v ∧ V k v ∧ Below W.heap.size W W' ∧ ∀ g', g' k = v → (∀ j ∈ dep k, g' j = g j) → Φ k g' W') :
    TS P w dep V Φ g k (execOp a.eval ⟨dst, .call ⟨.value (.func f), xs, ats⟩, ty, pos, after, gd⟩) := by
  intro W hW hd
  rw [execOp_call_go, hav, hf]
  exact h W hW hd
/-- what yields a value -/
theorem TS.val {s : Sem Next} (h : ∀ W, Below w.heap.size w W → (∀ j ∈ dep k, Φ j g W) → ∃ v W', s.run P W = .ok (.value v) W' ∧ V k v ∧ Below W.heap.size W W' ∧ ∀ g', g' k = v → (∀ j ∈ dep k, g' j = g j) → Φ k g' W') : TS P w dep V Φ g k s := by
  intro W hW hd
  obtain ⟨v, W', h1, h2⟩ := h W hW hd
  rw [h1]; exact h2
/-- a slice is made -/
theorem TS.make {t : TypeId} {l c : Operand} (ho : o.op = .makeSlice t l c) {lv cv : Value} (hl : a.eval l = lv) (hc : a.eval c = cv)
    (h : ∀ W, Below w.heap.size w W → (∀ j ∈ dep k, Φ j g W) → ∃ v W', (Instr.makeSlice t lv cv).run P W = .ok v W' ∧ V k v ∧ Below W.heap.size W W' ∧ ∀ g', g' k = v → (∀ j ∈ dep k, g' j = g j) → Φ k g' W') : TS P w dep V Φ g k (execOp a.eval o) := by
  refine TS.val fun W hW hd => ?_
  obtain ⟨v, W', h1, h2⟩ := h W hW hd
  refine ⟨v, W', ?_, h2⟩
  simp [execOp, ho, hl, hc, h1]
/-- what is run for a value -/
theorem TS.sem {s : Sem Value} (hs : execOp a.eval o = (do pure (Next.value (← s)))) (h : ∀ W, Below w.heap.size w W → (∀ j ∈ dep k, Φ j g W) → ∃ v W', s.run P W = .ok v W' ∧ V k v ∧ Below W.heap.size W W' ∧ ∀ g', g' k = v → (∀ j ∈ dep k, g' j = g j) → Φ k g' W') : TS P w dep V Φ g k (execOp a.eval o) := by
  refine TS.val fun W hW hd => ?_
  obtain ⟨v, W', h1, h2⟩ := h W hW hd
  refine ⟨v, W', ?_, h2⟩
  rw [hs, Sem.run_bind, h1]; rfl
end
/-- the same with one fresh operation, which makes one block -/
def ΦB (b k0 : Nat) (mk : Nat → Value) (t : TypeId) (cs : Array Value) (k : Nat) (g : Nat → Value) (W : World) : Prop := k = k0 → ∃ p, g k0 = mk p ∧ Bx W p t cs ∧ b ≤ p
def VB (mk : Nat → Value) (_k : Nat) (v : Value) : Prop := ∃ p, v = mk p
theorem TS.block {P : Program} {w : World} {mk : Nat → Value} {t : TypeId} {cs : Array Value} {g : Nat → Value} {k0 : Nat} {o : Oper} {a : Act} (s : Sem Value) (hs : execOp a.eval o = (do pure (Next.value (← s)))) (hr : ∀ W, s.run P W = .ok (mk W.heap.size) (W.alloc (.cells cs t))) :
    TS P w (fun _ => []) (VB mk) (ΦB w.heap.size k0 mk t cs) g k0 (execOp a.eval o) :=
  TS.sem hs fun W hW _ => ⟨_, _, hr W, ⟨_, rfl⟩, (Below.refl _ _).alloc (Nat.le_refl _) _, fun g' hg' _ _ => ⟨_, hg', Bx.new _ _ _, hW.size⟩⟩
end Go.Proofs.Ythlappdngpjdeaa
namespace Go.Proofs.Ythlappdngpjdeaa
open Go.RowKit L01 L02 L05 L06 L07 L13 L14 L15 L16 L18 L19
theorem tabB_cons (b : Hb) (L : List Hb) : tabB (b :: L) = bkL b ++ tabB L := by simp [tabB]
theorem tabB_drop : ∀ (L : List Hb) (k : Nat), tabB (L.drop k) = (tabB L).drop (k * 6)
  | L, 0 => by simp
  | [], k + 1 => by simp [tabB]
  | b :: L, k + 1 => by
    rw [List.drop_succ_cons, tabB_drop L k, tabB_cons, show (k + 1) * 6 = (bkL b).length + k * 6 by simp [bkL]; omega, List.drop_append, List.drop_of_length_le (l := bkL b) (by omega), Nat.add_sub_cancel_left, List.nil_append]
theorem tabB_take : ∀ (L : List Hb) (k : Nat), tabB (L.take k) = (tabB L).take (k * 6)
  | L, 0 => by simp [tabB]
  | [], k + 1 => by simp [tabB]
  | b :: L, k + 1 => by
    rw [List.take_succ_cons, tabB_cons, tabB_take L k, tabB_cons, show (k + 1) * 6 = (bkL b).length + k * 6 by simp [bkL]; omega, List.take_append, List.take_of_length_le (l := bkL b) (by omega), Nat.add_sub_cancel_left]
theorem Blks.cut {w : World} {v : Value} {L : List Hb} (h : Blks w v L) {lo hi : Nat} (h1 : lo ≤ hi) (h2 : hi ≤ L.length) :
    ∃ v', (∀ W, (Instr.sliceAt 26 v (some (.int .i64 (lo : Int))) (some (.int .i64 (hi : Int))) none).run Try.prog W = .ok v' W) ∧ Blks w v' ((L.drop lo).take (hi - lo)) := by
  obtain ⟨v', r1, _, _, r2, _⟩ := Rd.cutN h Try.underlying26 size_block h1 h2
  refine ⟨v', r1, ?_⟩
  unfold Blks
  rw [tabB_take, tabB_drop, List.length_take, List.length_drop, Nat.min_eq_left (by omega)]
  exact r2
/-- the blocks of a list as one free extent -/
def joinB (M : List Hb) : Hb := ⟨(M.getD 0 .none).at_, sumN M, 2, 0, false, 0⟩
theorem sumN_snoc (M : List Hb) (b : Hb) : sumN (M ++ [b]) = sumN M + b.size := by
  induction M with
  | nil => simp [sumN]
  | cons c M ih => rw [List.cons_append, sumN, sumN, ih]; omega
set_option maxRecDepth 100000 in
set_option maxHeartbeats 2000000 in
theorem joined_any (v : Value) (M : List Hb) (b : Hb) (hb : b = joinB M) (hM : 0 < M.length) (hl : M.length ≤ 3) (hs : ∀ c ∈ M, 0 ≤ c.size ∧ c.size ≤ 100000) (w : World) (h : Blks w v M) :
    Calls Try.prog 38 #[v] w fun e w' => e = .returned (.agg #[.int .i64 b.at_, .int .i64 b.size, .int .i64 b.kind, .int .i64 b.ty, .bool b.mark, .int .u64 b.next.toNat]) ∧ Below w.heap.size w w' := by
  have B : Below w.heap.size w w := Below.refl _ _
  have H := Lib.hid h
  have lx := h.len
  obtain ⟨N, hN⟩ : ∃ N, N = M.length := ⟨_, rfl⟩
  rw [← hN] at lx hM hl
  obtain ⟨bb, oo, c0, ia, m0, m1, m2, m3, m4, m5, hc0, _⟩ := h.at_ (k := 0) (by omega)
  have ia0 : ∀ W, (Instr.indexAt 26 v (.int .i64 0)).run Try.prog W = .ok (.pointer (some ⟨bb, oo, none⟩)) W := ia
  obtain ⟨a0, ha0⟩ : ∃ a, a = c0.at_ := ⟨_, rfl⟩
  rw [← ha0] at m0
  have hb2 : b = ⟨a0, sumN M, 2, 0, false, 0⟩ := by
    rw [hb, joinB, List.getD_eq_getElem?_getD, hc0.out, ha0]; rfl
  have HN := Lib.hid hN; have HS := Lib.hid hs; have HB := Lib.hid hb2
  clear h hN hs hb hb2 ia hc0 ha0 m1 m2 m3 m4 m5
  go_enter Try.func38, Try.ntmps38
  go_upto_region 1 with (fail)
  refine wp_gen (fun Wv => Bx Wv (w.heap.size) (38) (#[.int .i64 0, .int .i64 0, .int .i64 0, .int .i64 0, .bool false, .int .u64 0]) ∧ Below w.heap.size w Wv) ⟨((Bx.at_ (by simp))), ((Below.refl _ w).alloc (by simp <;> omega) _)⟩ ?_
  rintro wa1 ⟨g1, b⟩
  replace m0 := cell_later b m0; replace B := B.trans (b.mono B.size); clear b
  have c_g1 := g1.cell; have f_g1 := g1.free; have a_g1 := fun o => (g1.alloc o).cell; have d_g1 := fun o o2 => ((g1.alloc o).alloc o2).cell; have e_g1 := fun o => (g1.alloc o).free
  have hp1 := g1.lt
  go_upto_region 2 with (fail)
  refine wp_gen (fun Wv => Bx Wv (wa1.heap.size) (38) (#[.int .i64 a0, .int .i64 0, .int .i64 2, .int .i64 0, .bool false, .int .u64 0]) ∧ Below wa1.heap.size wa1 Wv) ⟨((Bx.at_ (by simp))), ((Below.refl _ wa1).alloc (by simp <;> omega) _)⟩ ?_
  rintro wa2 ⟨g2, b⟩
  replace m0 := cell_later b m0; try clear c_g1 f_g1 a_g1 d_g1 e_g1
  replace g1 := g1.below b; have c_g1 := g1.cell; have f_g1 := g1.free; have a_g1 := fun o => (g1.alloc o).cell; have d_g1 := fun o o2 => ((g1.alloc o).alloc o2).cell; have e_g1 := fun o => (g1.alloc o).free; replace B := B.trans (b.mono B.size); clear b
  have c_g2 := g2.cell; have f_g2 := g2.free; have a_g2 := fun o => (g2.alloc o).cell; have d_g2 := fun o o2 => ((g2.alloc o).alloc o2).cell; have e_g2 := fun o => (g2.alloc o).free
  generalize hpp : wa1.heap.size = p2 at *
  have hpw : w.heap.size < p2 := hp1
  have HI := Lib.hid (And.intro g1 (And.intro g2 B))
  clear g1 g2 B c_g1 f_g1 a_g1 d_g1 e_g1 c_g2 f_g2 a_g2 d_g2 e_g2 m0 hpp hp1
  go_wp2
  clear ia0
  go_loopg [13] N (fun g i wr => ∃ j : Nat, j ≤ N ∧ g = N - j ∧ i = .int .i64 j ∧ Hid (∃ s : Int, s = sumN (M.take j) ∧ 0 ≤ s ∧ s ≤ 100000 * j ∧ Bx wr w.heap.size 38 #[.int .i64 0, .int .i64 0, .int .i64 0, .int .i64 0, .bool false, .int .u64 0] ∧ Bx wr p2 38 #[.int .i64 a0, .int .i64 s, .int .i64 2, .int .i64 0, .bool false, .int .u64 0] ∧ Below w.heap.size w wr))
  case atStart => exact ⟨0, by omega, by omega, rfl, Lib.hid ⟨0, by simp [sumN], by omega, by omega, HI.out⟩⟩
  case round =>
    clear HI
    obtain ⟨j, hj, rfl, rfl, hh⟩ := hrel
    obtain ⟨s, hs, hs0, hs1, g1, g2, B⟩ := hh.out
    by_cases hlt : j < N
    · obtain ⟨bb, oo, c, ia, m0, m1, m2, m3, m4, m5, hc, _⟩ := (Blks.below H.out B).at_ (k := j) (by rw [← HN.out]; exact hlt)
      obtain ⟨z1, z2⟩ := HS.out c (List.mem_of_getElem? hc.out)
      have htk : M.take (j + 1) = M.take j ++ [c] := by rw [List.take_add_one, hc.out]; rfl
      have HT := Lib.hid (show s + c.size = sumN (M.take (j + 1)) by rw [htk, sumN_snoc, ← hs])
      have hw : IntKind.i64.wrap (s + c.size) = s + c.size := IntWalk.i64_in _ (by omega)
      have hB0 := B.size
      have hlt2 := g2.lt
      clear hc htk hs hh
      go_upto_region 5 with (fail)
      refine wp_gen (fun Wv => Bx Wv (wr.heap.size) (38) (#[.int .i64 c.at_, .int .i64 c.size, .int .i64 c.kind, .int .i64 c.ty, .bool c.mark, .int .u64 c.next.toNat]) ∧ Below wr.heap.size wr Wv) ⟨((Bx.at_ (by simp))), ((Below.refl _ wr).alloc (by simp <;> omega) _)⟩ ?_
      rintro wa3 ⟨g3, b⟩
      try clear c_g1 f_g1 a_g1 d_g1 e_g1
      replace g1 := g1.below b; have c_g1 := g1.cell; have f_g1 := g1.free; have a_g1 := fun o => (g1.alloc o).cell; have d_g1 := fun o o2 => ((g1.alloc o).alloc o2).cell; have e_g1 := fun o => (g1.alloc o).free; try clear c_g2 f_g2 a_g2 d_g2 e_g2
      replace g2 := g2.below b; have c_g2 := g2.cell; have f_g2 := g2.free; have a_g2 := fun o => (g2.alloc o).cell; have d_g2 := fun o o2 => ((g2.alloc o).alloc o2).cell; have e_g2 := fun o => (g2.alloc o).free; replace B := B.trans (b.mono B.size); clear b
      have c_g3 := g3.cell; have f_g3 := g3.free; have a_g3 := fun o => (g3.alloc o).cell; have d_g3 := fun o o2 => ((g3.alloc o).alloc o2).cell; have e_g3 := fun o => (g3.alloc o).free
      have hne : p2 ≠ wr.heap.size := by omega
      have HZ := Lib.hid (And.intro g1 (And.intro g2 B))
      go_wp2
      clear c_g1 f_g1 a_g1 d_g1 e_g1 c_g2 f_g2 a_g2 d_g2 e_g2 c_g3 f_g3 a_g3 d_g3 e_g3 m0 m1 m2 m3 m4 m5 ia
      go_roundg (N - (j + 1))
      case measure => omega
      case rel =>
        obtain ⟨g1, g2, B⟩ := HZ.out
        refine ⟨j + 1, by omega, rfl, by go_num, Lib.hid ⟨s + c.size, HT.out, by omega, by omega, g1.far (p := ⟨p2, 1, none⟩) (by show w.heap.size ≠ p2; omega) _, ?_, B.setCell (p := ⟨p2, 1, none⟩) (by show w.heap.size ≤ p2; omega) _⟩⟩
        have := g2.set (i := 1) (.int .i64 (s + c.size))
        simpa using this
    · obtain rfl : j = N := by omega
      have hsM : s = sumN M := by rw [hs, HN.out, List.take_length]
      have c_g1 := g1.cell; have f_g1 := g1.free; have c_g2 := g2.cell
      have HSM := Lib.hid hsM
      clear hs hsM hh
      go_wp2
      refine bodyPost_ret (v := .agg #[.int .i64 a0, .int .i64 s, .int .i64 2, .int .i64 0, .bool false, .int .u64 0]) (by simp [results, Try.results38, go_sem, c_g1, f_g1]) rfl ?_
      refine ⟨by rw [HB.out, HSM.out]; rfl, ?_⟩
      (repeat (first | refine Below.setCell ?_ (by first | exact Nat.le_refl _ | (simp <;> omega)) _ | refine Below.alloc ?_ (by first | exact B.size | (have := B.size; simp <;> omega)) _)); exact B
/-- what becomes of an object, by the joined blocks -/
theorem join_becomes {L : List Hb} {i : Nat} {b : Hb} (hb : L[i]? = some b) (hk : b.kind = 1) (lo hi : Nat) (hlo : lo = if lowF L i = true then i - 1 else i) (hhi : hi = if highF L i = true then i + 1 else i) :
    joinB ((L.drop lo).take (hi + 1 - lo)) = becomes L i ∧ lo ≤ i ∧ i ≤ hi ∧ hi < L.length ∧ hi + 1 - lo ≤ 3 := by
  have hil := (List.getElem?_eq_some_iff.1 hb).1
  have hgb : L.getD i .none = b := by rw [List.getD_eq_getElem?_getD, hb]; rfl
  have hlow : lowF L i = true → 0 < i ∧ ∃ f, L[i - 1]? = some f ∧ L.getD (i - 1) .none = f := fun h => by
    unfold lowF at h
    rw [Bool.and_eq_true, decide_eq_true_iff] at h
    have : i - 1 < L.length := by omega
    exact ⟨h.1, L[i - 1], List.getElem?_eq_getElem this, by rw [List.getD_eq_getElem?_getD, List.getElem?_eq_getElem this]; rfl⟩
  have hhigh : highF L i = true → i + 1 < L.length ∧ ∃ f, L[i + 1]? = some f ∧ L.getD (i + 1) .none = f := fun h => by
    unfold highF at h
    rw [decide_eq_true_iff] at h
    by_cases hl : i + 1 < L.length
    · exact ⟨hl, L[i + 1], List.getElem?_eq_getElem hl, by rw [List.getD_eq_getElem?_getD, List.getElem?_eq_getElem hl]; rfl⟩
    · rw [List.getD_eq_getElem?_getD, List.getElem?_eq_none (by omega)] at h
      exact absurd h (by decide)
  have d1 : ∀ {k : Nat} {c : Hb}, L[k]? = some c → L.drop k = c :: L.drop (k + 1) := fun {k c} h => by
    obtain ⟨h1, h2⟩ := List.getElem?_eq_some_iff.1 h
    rw [List.drop_eq_getElem_cons h1, h2]
  cases h1 : lowF L i <;> cases h2 : highF L i
  · rw [h1] at hlo; rw [h2] at hhi
    simp only [Bool.false_eq_true, if_false] at hlo hhi
    subst hlo; subst hhi
    refine ⟨?_, by omega, by omega, by omega, by omega⟩
    rw [show hi + 1 - hi = 1 by omega, d1 hb]
    unfold becomes
    rw [h1, h2, hgb]
    simp [joinB, sumN]
  · rw [h1] at hlo; rw [h2] at hhi
    simp only [Bool.false_eq_true, if_false, if_true] at hlo hhi
    obtain ⟨a1, f, a2, a3⟩ := hhigh h2
    subst hlo; subst hhi
    refine ⟨?_, by omega, by omega, by omega, by omega⟩
    rw [show lo + 1 + 1 - lo = 2 by omega, d1 hb, d1 a2]
    unfold becomes
    rw [h1, h2, hgb, a3]
    simp [joinB, sumN]
  · rw [h1] at hlo; rw [h2] at hhi
    simp only [Bool.false_eq_true, if_false, if_true] at hlo hhi
    obtain ⟨a1, f, a2, a3⟩ := hlow h1
    subst hlo; subst hhi
    refine ⟨?_, by omega, by omega, by omega, by omega⟩
    rw [show hi + 1 - (hi - 1) = 2 by omega, d1 a2, show hi - 1 + 1 = hi by omega, d1 hb]
    unfold becomes
    rw [h1, h2, hgb, a3]
    simp [joinB, sumN]; omega
  · rw [h1] at hlo; rw [h2] at hhi
    simp only [if_true] at hlo hhi
    obtain ⟨a1, f, a2, a3⟩ := hlow h1
    obtain ⟨a4, f', a5, a6⟩ := hhigh h2
    subst hlo; subst hhi
    refine ⟨?_, by omega, by omega, by omega, by omega⟩
    rw [show i + 1 + 1 - (i - 1) = 3 by omega, d1 a2, show i - 1 + 1 = i by omega, d1 hb, d1 a5]
    unfold becomes
    rw [h1, h2, hgb, a3, a6]
    simp [joinB, sumN]; omega
end Go.Proofs.Ythlappdngpjdeaa
namespace Go.Proofs.Ythlappdngpjdeaa
open Go.RowKit L01 L02 L05 L06 L07 L13 L14 L15 L16 L18 L19
theorem objIdx_first : ∀ {L : List Hb} {a : Int} {j k : Nat} {b : Hb}, L[j]? = some b → b.at_ = a → b.kind = 1 → (∀ i c, i < j → L[i]? = some c → ¬ (c.at_ = a ∧ c.kind = 1)) → objIdx L a k = some (k + j)
  | [], _, _, _, _, h, _, _, _ => by cases h
  | c :: L, a, 0, k, b, h, e, e2, _ => by
    simp at h; subst h
    rw [objIdx, if_pos ⟨e, e2⟩]; rfl
  | c :: L, a, j + 1, k, b, h, e, e2, hz => by
    have hc := hz 0 c (by omega) rfl
    rw [objIdx, if_neg hc, objIdx_first (j := j) (by simpa using h) e e2 (fun i c' hi hc' => hz (i + 1) c' (by omega) (by simpa using hc'))]
    congr 1; omega
set_option maxRecDepth 100000 in
set_option maxHeartbeats 8000000 in
theorem Around_any (v : Value) (l : List UInt64) (a : Int) (b : Hb) (r : Int) (hb : b = around l a) (hr : r = arErr l a) (w : World) (h : Words w v l) :
    Calls Try.prog 27 #[v, .int .i64 a] w fun e w' => e = .returned (.tuple #[.agg #[.int .i64 b.at_, .int .i64 b.size, .int .i64 b.kind, .int .i64 b.ty, .bool b.mark, .int .u64 b.next.toNat], .int .i64 r]) ∧ Below w.heap.size w w' := by
  have B : Below w.heap.size w w := Below.refl _ _
  have H := Lib.hid h
  obtain ⟨L, hL⟩ : ∃ L, L = allL l := ⟨_, rfl⟩
  obtain ⟨c, hc⟩ : ∃ c, c = allErr l := ⟨_, rfl⟩
  have WT := Lib.hid (fun w h => AllW_any v l L c hL hc w h)
  by_cases h0 : c = 0
  case neg =>
    have hr0 : r = c := by rw [hr, arErr, if_neg (by rw [← hc]; exact h0), hc]
    have hb0 : b = .none := by rw [hb, around, if_neg (by rw [← hr, hr0]; exact h0)]
    subst hr0; subst hb0
    have n1 : (r != 0) = true := by rw [bne_iff_ne]; exact h0
    clear hb hr h hL hc h0
    go_enter Try.func27, Try.ntmps27
    go_upto_region 1 with (fail)
    refine wp_gen (fun Wv => Bx Wv (w.heap.size) (38) (#[.int .i64 0, .int .i64 0, .int .i64 0, .int .i64 0, .bool false, .int .u64 0]) ∧ Below w.heap.size w Wv) ⟨((Bx.at_ (by simp))), ((Below.refl _ w).alloc (by simp <;> omega) _)⟩ ?_
    rintro wa1 ⟨g1, b⟩
    replace B := B.trans (b.mono B.size); clear b
    have c_g1 := g1.cell; have f_g1 := g1.free; have a_g1 := fun o => (g1.alloc o).cell; have d_g1 := fun o o2 => ((g1.alloc o).alloc o2).cell; have e_g1 := fun o => (g1.alloc o).free
    go_wp2_with fail
    refine (WT.out _ (H.out.below B)).mono ?_
    rintro e wa2 ⟨xl, rfl, ol, b⟩
    try clear c_g1 f_g1 a_g1 d_g1 e_g1
    replace g1 := g1.below b; have c_g1 := g1.cell; have f_g1 := g1.free; have a_g1 := fun o => (g1.alloc o).cell; have d_g1 := fun o o2 => ((g1.alloc o).alloc o2).cell; have e_g1 := fun o => (g1.alloc o).free; replace B := B.trans (b.mono B.size); clear b
    go_wp2
    refine bodyPost_ret (v := .tuple #[.agg #[.int .i64 0, .int .i64 0, .int .i64 0, .int .i64 0, .bool false, .int .u64 0], .int .i64 r]) (by simp [results, Try.results27, go_sem, c_g1, f_g1, a_g1, e_g1]) rfl ?_
    refine ⟨rfl, ?_⟩
    (repeat (first | refine Below.setCell ?_ (by first | exact Nat.le_refl _ | (simp <;> omega)) _ | refine Below.alloc ?_ (by first | exact B.size | (have := B.size; simp <;> omega)) _)); exact B
  case pos =>
    subst h0
    have hl9 : L.length ≤ 960 := by rw [hL]; exact all_len hc.symm
    have hszs : ∀ x ∈ L, 0 ≤ x.size ∧ x.size ≤ 100000 := fun x hx => by
      rw [hL] at hx
      obtain ⟨y, _, _, hs, h4, _⟩ := all_mem hc.symm hx
      have hz := szN_ge hs
      have : x.size = szN l y := by rw [h4]; exact stand_size hs
      omega
    have hrb : (∀ i, objIdx L a 0 = some i → b = becomes L i ∧ r = 0) ∧ (objIdx L a 0 = none → b = .none ∧ r = 6) := by
      constructor
      · intro i hi
        have hr0 : r = 0 := by rw [hr, arErr, if_pos hc.symm, ← hL, hi]; rfl
        exact ⟨by rw [hb, around, if_pos (by rw [← hr]; exact hr0), ← hL, hi]; rfl, hr0⟩
      · intro hf
        have hr0 : r = 6 := by rw [hr, arErr, if_pos hc.symm, ← hL, hf]; rfl
        exact ⟨by rw [hb, around, if_neg (by rw [← hr, hr0]; decide)], hr0⟩
    obtain ⟨N, hN⟩ : ∃ N, N = L.length := ⟨_, rfl⟩
    have HN := Lib.hid hN; have HRB := Lib.hid hrb; have HSZ := Lib.hid hszs
    have hN9 : N ≤ 960 := by omega
    clear hb hr h hL hc hl9 hN hrb hszs
    go_enter Try.func27, Try.ntmps27
    go_upto_region 1 with (fail)
    refine wp_gen (fun Wv => Bx Wv (w.heap.size) (38) (#[.int .i64 0, .int .i64 0, .int .i64 0, .int .i64 0, .bool false, .int .u64 0]) ∧ Below w.heap.size w Wv) ⟨((Bx.at_ (by simp))), ((Below.refl _ w).alloc (by simp <;> omega) _)⟩ ?_
    rintro wa1 ⟨g1, b⟩
    replace B := B.trans (b.mono B.size); clear b
    have c_g1 := g1.cell; have f_g1 := g1.free; have a_g1 := fun o => (g1.alloc o).cell; have d_g1 := fun o o2 => ((g1.alloc o).alloc o2).cell; have e_g1 := fun o => (g1.alloc o).free
    go_wp2_with fail
    refine (WT.out _ (H.out.below B)).mono ?_
    rintro e wa2 ⟨xl, rfl, ol, b⟩
    try clear c_g1 f_g1 a_g1 d_g1 e_g1
    replace g1 := g1.below b; have c_g1 := g1.cell; have f_g1 := g1.free; have a_g1 := fun o => (g1.alloc o).cell; have d_g1 := fun o o2 => ((g1.alloc o).alloc o2).cell; have e_g1 := fun o => (g1.alloc o).free; replace B := B.trans (b.mono B.size); clear b
    have lx := ol.rd.len
    rw [← HN.out] at lx
    have HO := Lib.hid ol.rd
    have hB1 := B.size
    have HB := Lib.hid (And.intro g1 B)
    have HBB := Lib.hid (Below.refl wa2.heap.size wa2)
    clear ol g1 B c_g1 f_g1 a_g1 d_g1 e_g1
    go_wp2
    go_loopg [23] N (fun g i wr => ∃ j : Nat, j ≤ N ∧ g = N - j ∧ i = .int .i64 j ∧ Hid (Below wa2.heap.size wa2 wr ∧ ∀ i c, i < j → L[i]? = some c → ¬ (c.at_ = a ∧ c.kind = 1)))
    case atStart => exact ⟨0, by omega, by omega, rfl, Lib.hid ⟨HBB.out, fun i c hi => by omega⟩⟩
    case round =>
      obtain ⟨j, hj, rfl, rfl, hh⟩ := hrel
      clear HBB
      have B2 := hh.out.1
      have HZ := Lib.hid hh.out.2
      have g1 := HB.out.1.below B2
      have B := HB.out.2.trans (B2.mono hB1)
      clear hh
      by_cases hlt : j < N
      · obtain ⟨bb, oo, x, ia, m0, m1, m2, m3, m4, m5, hx, _⟩ := (Blks.below HO.out B2).at_ (k := j) (by rw [← HN.out]; exact hlt)
        have HX := Lib.hid hx.out
        by_cases he : x.at_ = a ∧ x.kind = 1
        · have k1 : (x.at_ != a) = false := by rw [bne_eq_false_iff_eq]; exact he.1
          have k2 : (x.kind != 1) = false := by rw [bne_eq_false_iff_eq]; exact he.2
          have hidx := objIdx_first (k := 0) hx.out he.1 he.2 HZ.out
          rw [Nat.zero_add] at hidx
          obtain ⟨q1, q2⟩ := HRB.out.1 j hidx
          subst q2
          have HQ := Lib.hid q1; have HK := Lib.hid he.2
          have RB := Blks.below HO.out B2
          have hne0 : w.heap.size ≠ wr.heap.size := by have := g1.lt; omega
          obtain ⟨lo, hlo⟩ : ∃ lo, lo = if lowF L j = true then j - 1 else j := ⟨_, rfl⟩
          obtain ⟨hi, hhi⟩ : ∃ hi, hi = if highF L j = true then j + 1 else j := ⟨_, rfl⟩
          obtain ⟨jb1, jb2, jb3, jb4, jb5⟩ := join_becomes hx.out he.2 lo hi hlo hhi
          obtain ⟨sv, hcut, hsv⟩ := RB.cut (lo := lo) (hi := hi + 1) (by omega) (by omega)
          have JT := Lib.hid (fun w h => joined_any sv ((L.drop lo).take (hi + 1 - lo)) (becomes L j) jb1.symm (by rw [List.length_take, List.length_drop]; omega) (by rw [List.length_take]; omega) (fun c hc => HSZ.out c (List.mem_of_mem_drop (List.mem_of_mem_take hc))) w h)
          have HSV := Lib.hid hsv
          obtain ⟨bq, hbq⟩ : ∃ bq, bq = becomes L j := ⟨_, rfl⟩
          rw [← hbq] at JT q1
          have HQ := Lib.hid q1
          have wj1 : IntKind.i64.wrap ((j : Int) - 1) = (j : Int) - 1 := IntWalk.i64_in _ (by omega)
          have wj2 : IntKind.i64.wrap ((j : Int) + 1) = (j : Int) + 1 := IntWalk.i64_in _ (by omega)
          have wj3 : IntKind.i64.wrap ((j : Int) + 1 + 1) = (j : Int) + 1 + 1 := IntWalk.i64_in _ (by omega)
          have wj4 : IntKind.i64.wrap ((j : Int) - 1 + 1) = (j : Int) := by rw [show (j : Int) - 1 + 1 = (j : Int) by omega]; exact IntWalk.i64_in _ (by omega)
          have HLH := Lib.hid (And.intro hlo hhi); have HJ3 := Lib.hid (And.intro jb2 (And.intro jb3 jb4))
          clear he q1 hx hidx hlo hhi jb1 jb2 jb3 jb4 jb5 hsv hbq
          by_cases hj0 : 0 < j
          · obtain ⟨pb, po, px, ip, _, _, m8, _, _, _, hpx, _⟩ := RB.at_ (k := j - 1) (by rw [← HN.out]; omega)
            have ip2 : ∀ W, (Instr.indexAt 26 xl (.int .i64 ((j : Int) - 1))).run Try.prog W = .ok (.pointer (some ⟨pb, po, none⟩)) W := fun W => by rw [show ((j : Int) - 1) = ((j - 1 : Nat) : Int) by omega]; exact ip W
            have gj0 : decide ((0 : Int) < (j : Int)) = true := decide_eq_true (by omega)
            have gj0' : decide (0 < j) = true := decide_eq_true hj0
            have hlf : lowF L j = decide (px.kind = 2) := by
              unfold lowF
              rw [gj0', List.getD_eq_getElem?_getD, hpx.out]; rfl
            have HLF := Lib.hid hlf; have HPX := Lib.hid hpx.out
            clear ip hpx hlf
            by_cases hk2 : px.kind = 2
            · have kp : (px.kind == 2) = true := by rw [beq_iff_eq]; exact hk2
              have hloe : lo = j - 1 := by rw [HLH.out.1, HLF.out, if_pos (decide_eq_true hk2)]
              clear hk2
              by_cases hjn : j + 1 < N
              · obtain ⟨nb, no, nx, inn, _, _, m9, _, _, _, hnx, _⟩ := RB.at_ (k := j + 1) (by rw [← HN.out]; exact hjn)
                have in2 : ∀ W, (Instr.indexAt 26 xl (.int .i64 ((j : Int) + 1))).run Try.prog W = .ok (.pointer (some ⟨nb, no, none⟩)) W := inn
                have gn : decide ((j : Int) + 1 < (N : Int)) = true := decide_eq_true (by omega)
                have gn' : decide (j + 1 < N) = true := decide_eq_true hjn
                have hhf : highF L j = decide (nx.kind = 2) := by
                  unfold highF
                  rw [List.getD_eq_getElem?_getD, hnx.out]; rfl
                have HHF := Lib.hid hhf
                clear inn hnx hhf
                by_cases hk3 : nx.kind = 2
                · have kn : (nx.kind == 2) = true := by rw [beq_iff_eq]; exact hk3
                  have hhie : hi = j + 1 := by rw [HLH.out.2, HHF.out, if_pos (decide_eq_true hk3)]
                  clear hk3
                  have hcut2 : ∀ W, (Instr.sliceAt 26 xl (some (.int .i64 ((j : Int) - 1))) (some (.int .i64 ((j : Int) + 1 + 1))) none).run Try.prog W = .ok sv W := fun W => by
                    have := hcut W
                    rw [show ((lo : Nat) : Int) = ((j : Int) - 1) by have := hloe; omega, show ((hi + 1 : Nat) : Int) = (j : Int) + 1 + 1 by have := hhie; omega] at this
                    exact this
                  clear hcut
                  have B8 : Below wr.heap.size wr wr := Below.refl _ _
                  go_upto_region 7 with (fail)
                  refine wp_gen (fun Wv => Bx Wv (wr.heap.size) (38) (#[.int .i64 x.at_, .int .i64 x.size, .int .i64 x.kind, .int .i64 x.ty, .bool x.mark, .int .u64 x.next.toNat]) ∧ Below wr.heap.size wr Wv) ⟨((Bx.at_ (by simp))), ((Below.refl _ wr).alloc (by simp <;> omega) _)⟩ ?_
                  rintro wa3 ⟨g2, b⟩
                  try clear c_g1 f_g1 a_g1 d_g1 e_g1
                  replace g1 := g1.below b; have c_g1 := g1.cell; have f_g1 := g1.free; have a_g1 := fun o => (g1.alloc o).cell; have d_g1 := fun o o2 => ((g1.alloc o).alloc o2).cell; have e_g1 := fun o => (g1.alloc o).free; replace B8 := B8.trans (b.mono B8.size); replace m0 := cell_later b m0; replace m1 := cell_later b m1; replace m2 := cell_later b m2; replace m3 := cell_later b m3; replace m4 := cell_later b m4; replace m5 := cell_later b m5; replace m8 := cell_later b m8; replace m9 := cell_later b m9; replace B := B.trans (b.mono B.size); clear b
                  have c_g2 := g2.cell; have f_g2 := g2.free; have a_g2 := fun o => (g2.alloc o).cell; have d_g2 := fun o o2 => ((g2.alloc o).alloc o2).cell; have e_g2 := fun o => (g2.alloc o).free
                  have HSV2 := Lib.hid (Blks.below HSV.out B8)
                  clear a_g1 d_g1 e_g1 a_g2 d_g2 e_g2 f_g2
                  go_wp2_with fail
                  refine (JT.out _ HSV2.out).mono ?_
                  rintro e w9 ⟨rfl, b9⟩
                  replace g1 := g1.below b9
                  replace B := B.trans (b9.mono B.size)
                  have c_1 := g1.cell; have f_1 := g1.free
                  clear c_g1 f_g1 c_g2 b9
                  go_wp2
                  refine bodyPost_ret (v := .tuple #[.agg #[.int .i64 bq.at_, .int .i64 bq.size, .int .i64 bq.kind, .int .i64 bq.ty, .bool bq.mark, .int .u64 bq.next.toNat], .int .i64 0]) (by simp [results, Try.results27, go_sem, c_1, f_1]) rfl ?_
                  refine ⟨by rw [HQ.out], ?_⟩
                  (repeat (first | refine Below.setCell ?_ (by first | exact Nat.le_refl _ | (simp <;> omega)) _ | refine Below.alloc ?_ (by first | exact B.size | (have := B.size; simp <;> omega)) _)); exact B
                · have kn : (nx.kind == 2) = false := by rw [beq_eq_false_iff_ne]; exact hk3
                  have hhie : hi = j := by rw [HLH.out.2, HHF.out, if_neg (by simpa using hk3)]
                  clear hk3
                  have hcut2 : ∀ W, (Instr.sliceAt 26 xl (some (.int .i64 ((j : Int) - 1))) (some (.int .i64 ((j : Int) + 1))) none).run Try.prog W = .ok sv W := fun W => by
                    have := hcut W
                    rw [show ((lo : Nat) : Int) = ((j : Int) - 1) by have := hloe; omega, show ((hi + 1 : Nat) : Int) = (j : Int) + 1 by have := hhie; omega] at this
                    exact this
                  clear hcut
                  have B8 : Below wr.heap.size wr wr := Below.refl _ _
                  go_upto_region 7 with (fail)
                  refine wp_gen (fun Wv => Bx Wv (wr.heap.size) (38) (#[.int .i64 x.at_, .int .i64 x.size, .int .i64 x.kind, .int .i64 x.ty, .bool x.mark, .int .u64 x.next.toNat]) ∧ Below wr.heap.size wr Wv) ⟨((Bx.at_ (by simp))), ((Below.refl _ wr).alloc (by simp <;> omega) _)⟩ ?_
                  rintro wa4 ⟨g2, b⟩
                  try clear c_g1 f_g1 a_g1 d_g1 e_g1
                  replace g1 := g1.below b; have c_g1 := g1.cell; have f_g1 := g1.free; have a_g1 := fun o => (g1.alloc o).cell; have d_g1 := fun o o2 => ((g1.alloc o).alloc o2).cell; have e_g1 := fun o => (g1.alloc o).free; replace B8 := B8.trans (b.mono B8.size); replace m0 := cell_later b m0; replace m1 := cell_later b m1; replace m2 := cell_later b m2; replace m3 := cell_later b m3; replace m4 := cell_later b m4; replace m5 := cell_later b m5; replace m8 := cell_later b m8; replace m9 := cell_later b m9; replace B := B.trans (b.mono B.size); clear b
                  have c_g2 := g2.cell; have f_g2 := g2.free; have a_g2 := fun o => (g2.alloc o).cell; have d_g2 := fun o o2 => ((g2.alloc o).alloc o2).cell; have e_g2 := fun o => (g2.alloc o).free
                  have HSV2 := Lib.hid (Blks.below HSV.out B8)
                  clear a_g1 d_g1 e_g1 a_g2 d_g2 e_g2 f_g2
                  go_wp2_with fail
                  refine (JT.out _ HSV2.out).mono ?_
                  rintro e w9 ⟨rfl, b9⟩
                  replace g1 := g1.below b9
                  replace B := B.trans (b9.mono B.size)
                  have c_1 := g1.cell; have f_1 := g1.free
                  clear c_g1 f_g1 c_g2 b9
                  go_wp2
                  refine bodyPost_ret (v := .tuple #[.agg #[.int .i64 bq.at_, .int .i64 bq.size, .int .i64 bq.kind, .int .i64 bq.ty, .bool bq.mark, .int .u64 bq.next.toNat], .int .i64 0]) (by simp [results, Try.results27, go_sem, c_1, f_1]) rfl ?_
                  refine ⟨by rw [HQ.out], ?_⟩
                  (repeat (first | refine Below.setCell ?_ (by first | exact Nat.le_refl _ | (simp <;> omega)) _ | refine Below.alloc ?_ (by first | exact B.size | (have := B.size; simp <;> omega)) _)); exact B
              · have gn : decide ((j : Int) + 1 < (N : Int)) = false := decide_eq_false (by omega)
                have gn' : decide (j + 1 < N) = false := decide_eq_false hjn
                have hhie : hi = j := by
                  have : highF L j = false := by
                    unfold highF
                    rw [List.getD_eq_getElem?_getD, List.getElem?_eq_none (by rw [← HN.out]; omega)]; rfl
                  rw [HLH.out.2, this]; rfl
                have hcut2 : ∀ W, (Instr.sliceAt 26 xl (some (.int .i64 ((j : Int) - 1))) (some (.int .i64 ((j : Int) + 1))) none).run Try.prog W = .ok sv W := fun W => by
                  have := hcut W
                  rw [show ((lo : Nat) : Int) = ((j : Int) - 1) by have := hloe; omega, show ((hi + 1 : Nat) : Int) = (j : Int) + 1 by have := hhie; omega] at this
                  exact this
                clear hcut
                have B8 : Below wr.heap.size wr wr := Below.refl _ _
                go_upto_region 7 with (fail)
                refine wp_gen (fun Wv => Bx Wv (wr.heap.size) (38) (#[.int .i64 x.at_, .int .i64 x.size, .int .i64 x.kind, .int .i64 x.ty, .bool x.mark, .int .u64 x.next.toNat]) ∧ Below wr.heap.size wr Wv) ⟨((Bx.at_ (by simp))), ((Below.refl _ wr).alloc (by simp <;> omega) _)⟩ ?_
                rintro wa5 ⟨g2, b⟩
                try clear c_g1 f_g1 a_g1 d_g1 e_g1
                replace g1 := g1.below b; have c_g1 := g1.cell; have f_g1 := g1.free; have a_g1 := fun o => (g1.alloc o).cell; have d_g1 := fun o o2 => ((g1.alloc o).alloc o2).cell; have e_g1 := fun o => (g1.alloc o).free; replace B8 := B8.trans (b.mono B8.size); replace m0 := cell_later b m0; replace m1 := cell_later b m1; replace m2 := cell_later b m2; replace m3 := cell_later b m3; replace m4 := cell_later b m4; replace m5 := cell_later b m5; replace m8 := cell_later b m8; replace B := B.trans (b.mono B.size); clear b
                have c_g2 := g2.cell; have f_g2 := g2.free; have a_g2 := fun o => (g2.alloc o).cell; have d_g2 := fun o o2 => ((g2.alloc o).alloc o2).cell; have e_g2 := fun o => (g2.alloc o).free
                have HSV2 := Lib.hid (Blks.below HSV.out B8)
                clear a_g1 d_g1 e_g1 a_g2 d_g2 e_g2 f_g2
                go_wp2_with fail
                refine (JT.out _ HSV2.out).mono ?_
                rintro e w9 ⟨rfl, b9⟩
                replace g1 := g1.below b9
                replace B := B.trans (b9.mono B.size)
                have c_1 := g1.cell; have f_1 := g1.free
                clear c_g1 f_g1 c_g2 b9
                go_wp2
                refine bodyPost_ret (v := .tuple #[.agg #[.int .i64 bq.at_, .int .i64 bq.size, .int .i64 bq.kind, .int .i64 bq.ty, .bool bq.mark, .int .u64 bq.next.toNat], .int .i64 0]) (by simp [results, Try.results27, go_sem, c_1, f_1]) rfl ?_
                refine ⟨by rw [HQ.out], ?_⟩
                (repeat (first | refine Below.setCell ?_ (by first | exact Nat.le_refl _ | (simp <;> omega)) _ | refine Below.alloc ?_ (by first | exact B.size | (have := B.size; simp <;> omega)) _)); exact B
            · have kp : (px.kind == 2) = false := by rw [beq_eq_false_iff_ne]; exact hk2
              have hloe : lo = j := by rw [HLH.out.1, HLF.out, if_neg (by simpa using hk2)]
              clear hk2
              by_cases hjn : j + 1 < N
              · obtain ⟨nb, no, nx, inn, _, _, m9, _, _, _, hnx, _⟩ := RB.at_ (k := j + 1) (by rw [← HN.out]; exact hjn)
                have in2 : ∀ W, (Instr.indexAt 26 xl (.int .i64 ((j : Int) + 1))).run Try.prog W = .ok (.pointer (some ⟨nb, no, none⟩)) W := inn
                have gn : decide ((j : Int) + 1 < (N : Int)) = true := decide_eq_true (by omega)
                have gn' : decide (j + 1 < N) = true := decide_eq_true hjn
                have hhf : highF L j = decide (nx.kind = 2) := by
                  unfold highF
                  rw [List.getD_eq_getElem?_getD, hnx.out]; rfl
                have HHF := Lib.hid hhf
                clear inn hnx hhf
                by_cases hk3 : nx.kind = 2
                · have kn : (nx.kind == 2) = true := by rw [beq_iff_eq]; exact hk3
                  have hhie : hi = j + 1 := by rw [HLH.out.2, HHF.out, if_pos (decide_eq_true hk3)]
                  clear hk3
                  have hcut2 : ∀ W, (Instr.sliceAt 26 xl (some (.int .i64 (j : Int))) (some (.int .i64 ((j : Int) + 1 + 1))) none).run Try.prog W = .ok sv W := fun W => by
                    have := hcut W
                    rw [show ((lo : Nat) : Int) = (j : Int) by have := hloe; omega, show ((hi + 1 : Nat) : Int) = (j : Int) + 1 + 1 by have := hhie; omega] at this
                    exact this
                  clear hcut
                  have B8 : Below wr.heap.size wr wr := Below.refl _ _
                  go_upto_region 7 with (fail)
                  refine wp_gen (fun Wv => Bx Wv (wr.heap.size) (38) (#[.int .i64 x.at_, .int .i64 x.size, .int .i64 x.kind, .int .i64 x.ty, .bool x.mark, .int .u64 x.next.toNat]) ∧ Below wr.heap.size wr Wv) ⟨((Bx.at_ (by simp))), ((Below.refl _ wr).alloc (by simp <;> omega) _)⟩ ?_
                  rintro wa6 ⟨g2, b⟩
                  try clear c_g1 f_g1 a_g1 d_g1 e_g1
                  replace g1 := g1.below b; have c_g1 := g1.cell; have f_g1 := g1.free; have a_g1 := fun o => (g1.alloc o).cell; have d_g1 := fun o o2 => ((g1.alloc o).alloc o2).cell; have e_g1 := fun o => (g1.alloc o).free; replace B8 := B8.trans (b.mono B8.size); replace m0 := cell_later b m0; replace m1 := cell_later b m1; replace m2 := cell_later b m2; replace m3 := cell_later b m3; replace m4 := cell_later b m4; replace m5 := cell_later b m5; replace m8 := cell_later b m8; replace m9 := cell_later b m9; replace B := B.trans (b.mono B.size); clear b
                  have c_g2 := g2.cell; have f_g2 := g2.free; have a_g2 := fun o => (g2.alloc o).cell; have d_g2 := fun o o2 => ((g2.alloc o).alloc o2).cell; have e_g2 := fun o => (g2.alloc o).free
                  have HSV2 := Lib.hid (Blks.below HSV.out B8)
                  clear a_g1 d_g1 e_g1 a_g2 d_g2 e_g2 f_g2
                  go_wp2_with fail
                  refine (JT.out _ HSV2.out).mono ?_
                  rintro e w9 ⟨rfl, b9⟩
                  replace g1 := g1.below b9
                  replace B := B.trans (b9.mono B.size)
                  have c_1 := g1.cell; have f_1 := g1.free
                  clear c_g1 f_g1 c_g2 b9
                  go_wp2
                  refine bodyPost_ret (v := .tuple #[.agg #[.int .i64 bq.at_, .int .i64 bq.size, .int .i64 bq.kind, .int .i64 bq.ty, .bool bq.mark, .int .u64 bq.next.toNat], .int .i64 0]) (by simp [results, Try.results27, go_sem, c_1, f_1]) rfl ?_
                  refine ⟨by rw [HQ.out], ?_⟩
                  (repeat (first | refine Below.setCell ?_ (by first | exact Nat.le_refl _ | (simp <;> omega)) _ | refine Below.alloc ?_ (by first | exact B.size | (have := B.size; simp <;> omega)) _)); exact B
                · have kn : (nx.kind == 2) = false := by rw [beq_eq_false_iff_ne]; exact hk3
                  have hhie : hi = j := by rw [HLH.out.2, HHF.out, if_neg (by simpa using hk3)]
                  clear hk3
                  have hcut2 : ∀ W, (Instr.sliceAt 26 xl (some (.int .i64 (j : Int))) (some (.int .i64 ((j : Int) + 1))) none).run Try.prog W = .ok sv W := fun W => by
                    have := hcut W
                    rw [show ((lo : Nat) : Int) = (j : Int) by have := hloe; omega, show ((hi + 1 : Nat) : Int) = (j : Int) + 1 by have := hhie; omega] at this
                    exact this
                  clear hcut
                  have B8 : Below wr.heap.size wr wr := Below.refl _ _
                  go_upto_region 7 with (fail)
                  refine wp_gen (fun Wv => Bx Wv (wr.heap.size) (38) (#[.int .i64 x.at_, .int .i64 x.size, .int .i64 x.kind, .int .i64 x.ty, .bool x.mark, .int .u64 x.next.toNat]) ∧ Below wr.heap.size wr Wv) ⟨((Bx.at_ (by simp))), ((Below.refl _ wr).alloc (by simp <;> omega) _)⟩ ?_
                  rintro wa7 ⟨g2, b⟩
                  try clear c_g1 f_g1 a_g1 d_g1 e_g1
                  replace g1 := g1.below b; have c_g1 := g1.cell; have f_g1 := g1.free; have a_g1 := fun o => (g1.alloc o).cell; have d_g1 := fun o o2 => ((g1.alloc o).alloc o2).cell; have e_g1 := fun o => (g1.alloc o).free; replace B8 := B8.trans (b.mono B8.size); replace m0 := cell_later b m0; replace m1 := cell_later b m1; replace m2 := cell_later b m2; replace m3 := cell_later b m3; replace m4 := cell_later b m4; replace m5 := cell_later b m5; replace m8 := cell_later b m8; replace m9 := cell_later b m9; replace B := B.trans (b.mono B.size); clear b
                  have c_g2 := g2.cell; have f_g2 := g2.free; have a_g2 := fun o => (g2.alloc o).cell; have d_g2 := fun o o2 => ((g2.alloc o).alloc o2).cell; have e_g2 := fun o => (g2.alloc o).free
                  have HSV2 := Lib.hid (Blks.below HSV.out B8)
                  clear a_g1 d_g1 e_g1 a_g2 d_g2 e_g2 f_g2
                  go_wp2_with fail
                  refine (JT.out _ HSV2.out).mono ?_
                  rintro e w9 ⟨rfl, b9⟩
                  replace g1 := g1.below b9
                  replace B := B.trans (b9.mono B.size)
                  have c_1 := g1.cell; have f_1 := g1.free
                  clear c_g1 f_g1 c_g2 b9
                  go_wp2
                  refine bodyPost_ret (v := .tuple #[.agg #[.int .i64 bq.at_, .int .i64 bq.size, .int .i64 bq.kind, .int .i64 bq.ty, .bool bq.mark, .int .u64 bq.next.toNat], .int .i64 0]) (by simp [results, Try.results27, go_sem, c_1, f_1]) rfl ?_
                  refine ⟨by rw [HQ.out], ?_⟩
                  (repeat (first | refine Below.setCell ?_ (by first | exact Nat.le_refl _ | (simp <;> omega)) _ | refine Below.alloc ?_ (by first | exact B.size | (have := B.size; simp <;> omega)) _)); exact B
              · have gn : decide ((j : Int) + 1 < (N : Int)) = false := decide_eq_false (by omega)
                have gn' : decide (j + 1 < N) = false := decide_eq_false hjn
                have hhie : hi = j := by
                  have : highF L j = false := by
                    unfold highF
                    rw [List.getD_eq_getElem?_getD, List.getElem?_eq_none (by rw [← HN.out]; omega)]; rfl
                  rw [HLH.out.2, this]; rfl
                have hcut2 : ∀ W, (Instr.sliceAt 26 xl (some (.int .i64 (j : Int))) (some (.int .i64 ((j : Int) + 1))) none).run Try.prog W = .ok sv W := fun W => by
                  have := hcut W
                  rw [show ((lo : Nat) : Int) = (j : Int) by have := hloe; omega, show ((hi + 1 : Nat) : Int) = (j : Int) + 1 by have := hhie; omega] at this
                  exact this
                clear hcut
                have B8 : Below wr.heap.size wr wr := Below.refl _ _
                go_upto_region 7 with (fail)
                refine wp_gen (fun Wv => Bx Wv (wr.heap.size) (38) (#[.int .i64 x.at_, .int .i64 x.size, .int .i64 x.kind, .int .i64 x.ty, .bool x.mark, .int .u64 x.next.toNat]) ∧ Below wr.heap.size wr Wv) ⟨((Bx.at_ (by simp))), ((Below.refl _ wr).alloc (by simp <;> omega) _)⟩ ?_
                rintro wa8 ⟨g2, b⟩
                try clear c_g1 f_g1 a_g1 d_g1 e_g1
                replace g1 := g1.below b; have c_g1 := g1.cell; have f_g1 := g1.free; have a_g1 := fun o => (g1.alloc o).cell; have d_g1 := fun o o2 => ((g1.alloc o).alloc o2).cell; have e_g1 := fun o => (g1.alloc o).free; replace B8 := B8.trans (b.mono B8.size); replace m0 := cell_later b m0; replace m1 := cell_later b m1; replace m2 := cell_later b m2; replace m3 := cell_later b m3; replace m4 := cell_later b m4; replace m5 := cell_later b m5; replace m8 := cell_later b m8; replace B := B.trans (b.mono B.size); clear b
                have c_g2 := g2.cell; have f_g2 := g2.free; have a_g2 := fun o => (g2.alloc o).cell; have d_g2 := fun o o2 => ((g2.alloc o).alloc o2).cell; have e_g2 := fun o => (g2.alloc o).free
                have HSV2 := Lib.hid (Blks.below HSV.out B8)
                clear a_g1 d_g1 e_g1 a_g2 d_g2 e_g2 f_g2
                go_wp2_with fail
                refine (JT.out _ HSV2.out).mono ?_
                rintro e w9 ⟨rfl, b9⟩
                replace g1 := g1.below b9
                replace B := B.trans (b9.mono B.size)
                have c_1 := g1.cell; have f_1 := g1.free
                clear c_g1 f_g1 c_g2 b9
                go_wp2
                refine bodyPost_ret (v := .tuple #[.agg #[.int .i64 bq.at_, .int .i64 bq.size, .int .i64 bq.kind, .int .i64 bq.ty, .bool bq.mark, .int .u64 bq.next.toNat], .int .i64 0]) (by simp [results, Try.results27, go_sem, c_1, f_1]) rfl ?_
                refine ⟨by rw [HQ.out], ?_⟩
                (repeat (first | refine Below.setCell ?_ (by first | exact Nat.le_refl _ | (simp <;> omega)) _ | refine Below.alloc ?_ (by first | exact B.size | (have := B.size; simp <;> omega)) _)); exact B
          · have gj0 : decide ((0 : Int) < (j : Int)) = false := decide_eq_false (by omega)
            have gj0' : decide (0 < j) = false := decide_eq_false hj0
            have hloe : lo = j := by
              have : lowF L j = false := by unfold lowF; rw [gj0']; rfl
              rw [HLH.out.1, this]; rfl
            clear hj0
            by_cases hjn : j + 1 < N
            · obtain ⟨nb, no, nx, inn, _, _, m9, _, _, _, hnx, _⟩ := RB.at_ (k := j + 1) (by rw [← HN.out]; exact hjn)
              have in2 : ∀ W, (Instr.indexAt 26 xl (.int .i64 ((j : Int) + 1))).run Try.prog W = .ok (.pointer (some ⟨nb, no, none⟩)) W := inn
              have gn : decide ((j : Int) + 1 < (N : Int)) = true := decide_eq_true (by omega)
              have gn' : decide (j + 1 < N) = true := decide_eq_true hjn
              have hhf : highF L j = decide (nx.kind = 2) := by
                unfold highF
                rw [List.getD_eq_getElem?_getD, hnx.out]; rfl
              have HHF := Lib.hid hhf
              clear inn hnx hhf
              by_cases hk3 : nx.kind = 2
              · have kn : (nx.kind == 2) = true := by rw [beq_iff_eq]; exact hk3
                have hhie : hi = j + 1 := by rw [HLH.out.2, HHF.out, if_pos (decide_eq_true hk3)]
                clear hk3
                have hcut2 : ∀ W, (Instr.sliceAt 26 xl (some (.int .i64 (j : Int))) (some (.int .i64 ((j : Int) + 1 + 1))) none).run Try.prog W = .ok sv W := fun W => by
                  have := hcut W
                  rw [show ((lo : Nat) : Int) = (j : Int) by have := hloe; omega, show ((hi + 1 : Nat) : Int) = (j : Int) + 1 + 1 by have := hhie; omega] at this
                  exact this
                clear hcut
                have B8 : Below wr.heap.size wr wr := Below.refl _ _
                go_upto_region 7 with (fail)
                refine wp_gen (fun Wv => Bx Wv (wr.heap.size) (38) (#[.int .i64 x.at_, .int .i64 x.size, .int .i64 x.kind, .int .i64 x.ty, .bool x.mark, .int .u64 x.next.toNat]) ∧ Below wr.heap.size wr Wv) ⟨((Bx.at_ (by simp))), ((Below.refl _ wr).alloc (by simp <;> omega) _)⟩ ?_
                rintro wa9 ⟨g2, b⟩
                try clear c_g1 f_g1 a_g1 d_g1 e_g1
                replace g1 := g1.below b; have c_g1 := g1.cell; have f_g1 := g1.free; have a_g1 := fun o => (g1.alloc o).cell; have d_g1 := fun o o2 => ((g1.alloc o).alloc o2).cell; have e_g1 := fun o => (g1.alloc o).free; replace B8 := B8.trans (b.mono B8.size); replace m0 := cell_later b m0; replace m1 := cell_later b m1; replace m2 := cell_later b m2; replace m3 := cell_later b m3; replace m4 := cell_later b m4; replace m5 := cell_later b m5; replace m9 := cell_later b m9; replace B := B.trans (b.mono B.size); clear b
                have c_g2 := g2.cell; have f_g2 := g2.free; have a_g2 := fun o => (g2.alloc o).cell; have d_g2 := fun o o2 => ((g2.alloc o).alloc o2).cell; have e_g2 := fun o => (g2.alloc o).free
                have HSV2 := Lib.hid (Blks.below HSV.out B8)
                clear a_g1 d_g1 e_g1 a_g2 d_g2 e_g2 f_g2
                go_wp2_with fail
                refine (JT.out _ HSV2.out).mono ?_
                rintro e w9 ⟨rfl, b9⟩
                replace g1 := g1.below b9
                replace B := B.trans (b9.mono B.size)
                have c_1 := g1.cell; have f_1 := g1.free
                clear c_g1 f_g1 c_g2 b9
                go_wp2
                refine bodyPost_ret (v := .tuple #[.agg #[.int .i64 bq.at_, .int .i64 bq.size, .int .i64 bq.kind, .int .i64 bq.ty, .bool bq.mark, .int .u64 bq.next.toNat], .int .i64 0]) (by simp [results, Try.results27, go_sem, c_1, f_1]) rfl ?_
                refine ⟨by rw [HQ.out], ?_⟩
                (repeat (first | refine Below.setCell ?_ (by first | exact Nat.le_refl _ | (simp <;> omega)) _ | refine Below.alloc ?_ (by first | exact B.size | (have := B.size; simp <;> omega)) _)); exact B
              · have kn : (nx.kind == 2) = false := by rw [beq_eq_false_iff_ne]; exact hk3
                have hhie : hi = j := by rw [HLH.out.2, HHF.out, if_neg (by simpa using hk3)]
                clear hk3
                have hcut2 : ∀ W, (Instr.sliceAt 26 xl (some (.int .i64 (j : Int))) (some (.int .i64 ((j : Int) + 1))) none).run Try.prog W = .ok sv W := fun W => by
                  have := hcut W
                  rw [show ((lo : Nat) : Int) = (j : Int) by have := hloe; omega, show ((hi + 1 : Nat) : Int) = (j : Int) + 1 by have := hhie; omega] at this
                  exact this
                clear hcut
                have B8 : Below wr.heap.size wr wr := Below.refl _ _
                go_upto_region 7 with (fail)
                refine wp_gen (fun Wv => Bx Wv (wr.heap.size) (38) (#[.int .i64 x.at_, .int .i64 x.size, .int .i64 x.kind, .int .i64 x.ty, .bool x.mark, .int .u64 x.next.toNat]) ∧ Below wr.heap.size wr Wv) ⟨((Bx.at_ (by simp))), ((Below.refl _ wr).alloc (by simp <;> omega) _)⟩ ?_
                rintro wa10 ⟨g2, b⟩
                try clear c_g1 f_g1 a_g1 d_g1 e_g1
                replace g1 := g1.below b; have c_g1 := g1.cell; have f_g1 := g1.free; have a_g1 := fun o => (g1.alloc o).cell; have d_g1 := fun o o2 => ((g1.alloc o).alloc o2).cell; have e_g1 := fun o => (g1.alloc o).free; replace B8 := B8.trans (b.mono B8.size); replace m0 := cell_later b m0; replace m1 := cell_later b m1; replace m2 := cell_later b m2; replace m3 := cell_later b m3; replace m4 := cell_later b m4; replace m5 := cell_later b m5; replace m9 := cell_later b m9; replace B := B.trans (b.mono B.size); clear b
                have c_g2 := g2.cell; have f_g2 := g2.free; have a_g2 := fun o => (g2.alloc o).cell; have d_g2 := fun o o2 => ((g2.alloc o).alloc o2).cell; have e_g2 := fun o => (g2.alloc o).free
                have HSV2 := Lib.hid (Blks.below HSV.out B8)
                clear a_g1 d_g1 e_g1 a_g2 d_g2 e_g2 f_g2
                go_wp2_with fail
                refine (JT.out _ HSV2.out).mono ?_
                rintro e w9 ⟨rfl, b9⟩
                replace g1 := g1.below b9
                replace B := B.trans (b9.mono B.size)
                have c_1 := g1.cell; have f_1 := g1.free
                clear c_g1 f_g1 c_g2 b9
                go_wp2
                refine bodyPost_ret (v := .tuple #[.agg #[.int .i64 bq.at_, .int .i64 bq.size, .int .i64 bq.kind, .int .i64 bq.ty, .bool bq.mark, .int .u64 bq.next.toNat], .int .i64 0]) (by simp [results, Try.results27, go_sem, c_1, f_1]) rfl ?_
                refine ⟨by rw [HQ.out], ?_⟩
                (repeat (first | refine Below.setCell ?_ (by first | exact Nat.le_refl _ | (simp <;> omega)) _ | refine Below.alloc ?_ (by first | exact B.size | (have := B.size; simp <;> omega)) _)); exact B
            · have gn : decide ((j : Int) + 1 < (N : Int)) = false := decide_eq_false (by omega)
              have gn' : decide (j + 1 < N) = false := decide_eq_false hjn
              have hhie : hi = j := by
                have : highF L j = false := by
                  unfold highF
                  rw [List.getD_eq_getElem?_getD, List.getElem?_eq_none (by rw [← HN.out]; omega)]; rfl
                rw [HLH.out.2, this]; rfl
              have hcut2 : ∀ W, (Instr.sliceAt 26 xl (some (.int .i64 (j : Int))) (some (.int .i64 ((j : Int) + 1))) none).run Try.prog W = .ok sv W := fun W => by
                have := hcut W
                rw [show ((lo : Nat) : Int) = (j : Int) by have := hloe; omega, show ((hi + 1 : Nat) : Int) = (j : Int) + 1 by have := hhie; omega] at this
                exact this
              clear hcut
              have B8 : Below wr.heap.size wr wr := Below.refl _ _
              go_upto_region 7 with (fail)
              refine wp_gen (fun Wv => Bx Wv (wr.heap.size) (38) (#[.int .i64 x.at_, .int .i64 x.size, .int .i64 x.kind, .int .i64 x.ty, .bool x.mark, .int .u64 x.next.toNat]) ∧ Below wr.heap.size wr Wv) ⟨((Bx.at_ (by simp))), ((Below.refl _ wr).alloc (by simp <;> omega) _)⟩ ?_
              rintro wa11 ⟨g2, b⟩
              try clear c_g1 f_g1 a_g1 d_g1 e_g1
              replace g1 := g1.below b; have c_g1 := g1.cell; have f_g1 := g1.free; have a_g1 := fun o => (g1.alloc o).cell; have d_g1 := fun o o2 => ((g1.alloc o).alloc o2).cell; have e_g1 := fun o => (g1.alloc o).free; replace B8 := B8.trans (b.mono B8.size); replace m0 := cell_later b m0; replace m1 := cell_later b m1; replace m2 := cell_later b m2; replace m3 := cell_later b m3; replace m4 := cell_later b m4; replace m5 := cell_later b m5; replace B := B.trans (b.mono B.size); clear b
              have c_g2 := g2.cell; have f_g2 := g2.free; have a_g2 := fun o => (g2.alloc o).cell; have d_g2 := fun o o2 => ((g2.alloc o).alloc o2).cell; have e_g2 := fun o => (g2.alloc o).free
              have HSV2 := Lib.hid (Blks.below HSV.out B8)
              clear a_g1 d_g1 e_g1 a_g2 d_g2 e_g2 f_g2
              go_wp2_with fail
              refine (JT.out _ HSV2.out).mono ?_
              rintro e w9 ⟨rfl, b9⟩
              replace g1 := g1.below b9
              replace B := B.trans (b9.mono B.size)
              have c_1 := g1.cell; have f_1 := g1.free
              clear c_g1 f_g1 c_g2 b9
              go_wp2
              refine bodyPost_ret (v := .tuple #[.agg #[.int .i64 bq.at_, .int .i64 bq.size, .int .i64 bq.kind, .int .i64 bq.ty, .bool bq.mark, .int .u64 bq.next.toNat], .int .i64 0]) (by simp [results, Try.results27, go_sem, c_1, f_1]) rfl ?_
              refine ⟨by rw [HQ.out], ?_⟩
              (repeat (first | refine Below.setCell ?_ (by first | exact Nat.le_refl _ | (simp <;> omega)) _ | refine Below.alloc ?_ (by first | exact B.size | (have := B.size; simp <;> omega)) _)); exact B
        · have HZ2 : Hid (∀ i c, i < j + 1 → L[i]? = some c → ¬ (c.at_ = a ∧ c.kind = 1)) := Lib.hid (fun i c hi hc => by
            by_cases e : i = j
            · subst e; rw [HX.out] at hc; injection hc with hc; subst hc; exact he
            · exact HZ.out i c (by omega) hc)
          have hcase : (x.at_ != a) = true ∨ ((x.at_ != a) = false ∧ (x.kind != 1) = true) := by
            by_cases e : x.at_ = a
            · exact .inr ⟨by rw [bne_eq_false_iff_eq]; exact e, by rw [bne_iff_ne]; exact fun e2 => he ⟨e, e2⟩⟩
            · exact .inl (by rw [bne_iff_ne]; exact e)
          clear he hx
          rcases hcase with k1 | ⟨k1, k2⟩
          all_goals
            go_upto_region 7 with (fail)
            refine wp_gen (fun Wv => Bx Wv (wr.heap.size) (38) (#[.int .i64 x.at_, .int .i64 x.size, .int .i64 x.kind, .int .i64 x.ty, .bool x.mark, .int .u64 x.next.toNat]) ∧ Below wr.heap.size wr Wv) ⟨((Bx.at_ (by simp))), ((Below.refl _ wr).alloc (by simp <;> omega) _)⟩ ?_
            rintro wa12 ⟨g2, b⟩
            replace B2 := B2.trans (b.mono B2.size); replace B := B.trans (b.mono B.size); clear b
            have c_g2 := g2.cell; have f_g2 := g2.free; have a_g2 := fun o => (g2.alloc o).cell; have d_g2 := fun o o2 => ((g2.alloc o).alloc o2).cell; have e_g2 := fun o => (g2.alloc o).free
            have HQ := Lib.hid (And.intro B2 HZ2.out)
            go_wp2
            go_roundg (N - (j + 1))
            case measure => omega
            case rel => exact ⟨j + 1, by omega, rfl, by go_num, HQ⟩
      · obtain rfl : j = N := by omega
        have hf : objIdx L a 0 = none := objIdx_none.2 (fun y hy => by
          obtain ⟨i, hi⟩ := List.getElem?_of_mem hy
          exact HZ.out i y (by rw [HN.out]; exact (List.getElem?_eq_some_iff.1 hi).1) hi)
        obtain ⟨q1, q2⟩ := HRB.out.2 hf
        subst q2
        have HQ := Lib.hid q1
        clear hf q1
        have c_g1 := g1.cell; have f_g1 := g1.free
        go_wp2
        refine bodyPost_ret (v := .tuple #[.agg #[.int .i64 0, .int .i64 0, .int .i64 0, .int .i64 0, .bool false, .int .u64 0], .int .i64 6]) (by simp [results, Try.results27, go_sem, c_g1, f_g1]) rfl ?_
        refine ⟨by rw [HQ.out]; rfl, ?_⟩
        (repeat (first | refine Below.setCell ?_ (by first | exact Nat.le_refl _ | (simp <;> omega)) _ | refine Below.alloc ?_ (by first | exact B.size | (have := B.size; simp <;> omega)) _)); exact B
end Go.Proofs.Ythlappdngpjdeaa
