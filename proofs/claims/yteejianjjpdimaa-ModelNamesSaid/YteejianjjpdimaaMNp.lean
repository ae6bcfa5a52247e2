/- Contracts of the functions that the laws 'N' reach, part 16. No condition. -/
import Derived.Test.YteejianjjpdimaaMNo
set_option linter.unusedVariables false
set_option linter.unusedSimpArgs false
namespace Go.Proofs.Yteejianjjpdimaa
open Go.RowKit L02 L13 L18 L20
/-- a block of another type is stored into -/
theorem Fi.sets {b pf p i : Nat} {w : World} {tv ov sv nv rv u : Value} {m : Mo} {od ord : List Nat} {t : TypeId} {cs : Array Value} (e : Fi b w pf tv ov sv nv rv m od ord) (hx : Bx w p t cs) (h1 : t ≠ 3) (h2 : t ≠ 64) (h3 : 41 ≠ t) (h4 : 5 ≠ t) (h5 : 45 ≠ t) (h6 : 46 ≠ t) (h7 : 48 ≠ t) :
    Fi b (w.setCell ⟨p, i, none⟩ u) pf tv ov sv nv rv m od ord := by
  refine ⟨e.g.far (p := ⟨p, i, none⟩) ?_ _, own_set e.hn hx (Ne.symm h1), own_set e.hr hx (Ne.symm h1), ⟨e.om.t.set hx h3 h4, e.om.o.set hx h5 h6, own_set e.om.s hx h7⟩, e.ne, e.hb⟩
  show pf ≠ p
  rintro rfl
  have h0 := e.g
  unfold Bx at hx h0
  rw [hx] at h0
  injection h0 with h0
  injection h0 with _ h0
  exact h2 h0
/-- make([]int, n) -/
theorem run_make_ints {w : World} (n : Nat) (hn : n ≤ 1000) : ∃ v w', (Instr.makeSlice 30 (.int .i64 (n : Int)) (.int .i64 (n : Int))).run Try.prog w = .ok v w' ∧ OwnI w' w.heap.size 3 v (List.replicate n 0) ∧ Below w.heap.size w w' := by
  obtain ⟨i, hi1, hi2, hi3, hi4⟩ := info3 info_int
  obtain ⟨w', hrun, g1, g2⟩ := run_make_full (P := Try.prog) w w.heap.size 30 _ i _ 1 Try.underlying30 hi1 hi2 hi3 .i64 .i64 n (by rw [hi4]; omega) (by unfold maxLen; omega) (Nat.le_refl _)
  refine ⟨_, w', hrun, OwnI.of g1 ?_, (Below.refl _ w).grown g2 (Nat.le_refl _) (fun _ hk => by cases hk)⟩
  rw [Nat.mul_one, show (Value.int IntKind.i64 0).cells = #[Value.int IntKind.i64 0] from rfl, toList_madeCells_one]
  simp [i64]
/-- what is known of the fresh values of the region in which the finder is made -/
def ΦC (b N : Nat) (m : Mo) (k : Nat) (g : Nat → Value) (W : World) : Prop :=
  match k with
  | 1 => ∃ t o s, g 1 = .agg #[t, o, s] ∧ OwnM W b 48 t o s m
  | 5 => OwnI W b 3 (g 5) (List.replicate N 0)
  | 6 => ∃ t o s, g 1 = .agg #[t, o, s] ∧ g 6 = .agg #[t, o, s, g 5, .slice none 0 0]
  | 7 => ∃ p cs, g 7 = .pointer (some ⟨p, 0, none⟩) ∧ g 6 = .agg cs ∧ Bx W p 64 cs ∧ b ≤ p
  | 8 => ∃ p, g 8 = .pointer (some ⟨p, 0, none⟩) ∧ Bx W p 62 #[.pointer none] ∧ b ≤ p
  | _ => True
def VC (k : Nat) (v : Value) : Prop :=
  match k with
  | 1 => ∃ tA tn tc oA on oc sA sn sc, v = .agg #[.slice tA tn tc, .slice oA on oc, .slice sA sn sc]
  | 5 => ∃ A n c, v = .slice A n c
  | 6 => ∃ cs : Array Value, v = .agg cs ∧ cs.size = 5 ∧ cs.all (·.oneCell') = true
  | 7 => ∃ p, v = .pointer (some ⟨p, 0, none⟩)
  | 8 => ∃ p, v = .pointer (some ⟨p, 0, none⟩)
  | _ => True
def depC (k : Nat) : List Nat :=
  match k with
  | 6 => [1, 5]
  | 7 => [6]
  | _ => []
/-- memory while the objects that are found are put together -/
structure Cs (b : Nat) (w : World) (pf pc p2 p6 : Nat) (t o s nv rv ov2 : Value) (m : Mo) (out : List Nat) (vs : List Value) (k : Nat) : Prop where
  gf : Bx w pf 64 #[t, o, s, nv, rv]
  gc : Bx w pc 62 #[.pointer (some ⟨pf, 0, none⟩)]
  g2 : Bx w p2 26 #[.slice none 0 0, .slice none 0 0, .slice none 0 0]
  g6 : Bx w p6 26 #[t, ov2, s]
  hn : OwnI w b 3 nv (numsI m out)
  hr : OwnI w b 3 rv (natI out)
  ht : OwnT w b t m.types
  hs : OwnS w b 48 s m.slots
  hl : vs.length = m.objs.length
  ho : w.ownsRow b 45 2 o m.objs.length (obC m.objs vs)
  hf : ∀ (i : Nat) x q, vs[i]? = some x → m.objs[i]? = some q → OwnW w b 46 x q.fs
  hd : ∀ (i j : Nat) x y, i ≠ j → vs[i]? = some x → vs[j]? = some y → x.ownBlock = none ∨ x.ownBlock ≠ y.ownBlock
  h2 : w.ownsRow b 45 2 ov2 k (obC ((out.take k).map (ob m)) ((out.take k).map fun n => vs.getD n undef))
  ne : ∀ g, o.ownBlock = some g → ov2.ownBlock ≠ some g
section
variable {b : Nat} {w w' : World} {pf pc p2 p6 : Nat} {t o s nv rv ov2 : Value} {m : Mo} {out : List Nat} {vs : List Value} {k : Nat}
theorem Cs.below (e : Cs b w pf pc p2 p6 t o s nv rv ov2 m out vs k) (h : Below w.heap.size w w') : Cs b w' pf pc p2 p6 t o s nv rv ov2 m out vs k :=
  ⟨e.gf.below h, e.gc.below h, e.g2.below h, e.g6.below h, e.hn.below h, e.hr.below h, e.ht.below h, e.hs.below h, e.hl, own_below e.ho h, fun i x q h1 h2 => (e.hf i x q h1 h2).below h, e.hd, own_below e.h2 h, e.ne⟩
/-- an object as it lies in memory -/
theorem Cs.at_ (e : Cs b w pf pc p2 p6 t o s nv rv ov2 m out vs k) {n : Nat} (hn : n < m.objs.length) :
    ∃ g q x, (∀ W, (Instr.indexAt 23 o (.int .i64 (n : Int))).run Try.prog W = .ok (.pointer (some ⟨g, q, none⟩)) W) ∧ w.cell? ⟨g, q, none⟩ = some (.int .i64 (ob m n).ty) ∧ w.cell? ⟨g, q + 1, none⟩ = some x ∧ vs.getD n undef = x ∧ x.oneCell' = true := by
  have hvl : n < vs.length := by rw [e.hl]; exact hn
  have hv : vs[n]? = some vs[n] := List.getElem?_eq_getElem hvl
  have hob : m.objs[n]? = some m.objs[n] := List.getElem?_eq_getElem hn
  have hix := fun W => Rd.ixN (P := Try.prog) (Rd.of_own e.ho) Try.underlying23 size_obj hn W
  obtain ⟨g, q, c, rfl, hb, hc, hcell⟩ := Rd.form (Rd.of_own e.ho) (by omega)
  obtain ⟨c0, c1⟩ := obC_get hob hv
  refine ⟨g, q + n * 2, vs[n], fun W => hix W, ?_, hcell _ _ c1, by simp [List.getD_eq_getElem?_getD, hv], (e.hf n _ _ hv hob).rd.oneCell⟩
  have := hcell _ _ c0
  rw [ob_at hob]; exact this
theorem Cs.push {n n' : Nat} {v' x : Value} (e : Cs b w pf pc p2 p6 t o s nv rv ov2 m out vs k) (hk : out[k]? = some n) (hx : vs.getD n undef = x) (hp2 : p2 ≠ p6) (o1 : w'.ownsRow b 45 2 v' n' (obC ((out.take k).map (ob m)) ((out.take k).map fun n => vs.getD n undef) ++ [.int .i64 (ob m n).ty, x])) (hg : w.grownBy w' ov2.ownBlock)
    (hb : ∀ g, v'.ownBlock = some g → ov2.ownBlock = some g ∨ w.heap.size ≤ g) :
    Bx w' p6 26 #[t, ov2, s] ∧ Cs b (w'.setCell ⟨p6, 1, none⟩ v') pf pc p2 p6 t o s nv rv v' m out vs (k + 1) := by
  have kx := fun {g : Nat} {ty : TypeId} {cs : Array Value} (h : Bx w g ty cs) (hne : 45 ≠ ty) => h.grown hg (own_not_bx e.h2 h hne)
  have g6 := kx e.g6 (by decide)
  have hsc := grown_set w' ⟨p6, 1, none⟩ v'
  have kr := fun {B ee sz nn : Nat} {vv : Value} {xs : List Value} (h : w.ownsRow B ee sz vv nn xs) (h1 : ee ≠ 45) (h2 : ee ≠ 26) => World.ownsRow.kept (World.ownsRow.kept h hg (own_unlike h e.h2 h1)) hsc (own_not_bx (World.ownsRow.kept h hg (own_unlike h e.h2 h1)) g6 h2)
  have hkl : k < out.length := (List.getElem?_eq_some_iff.1 hk).1
  have ht : out.take (k + 1) = out.take k ++ [n] := by rw [List.take_add_one, hk]; rfl
  have hlen : (out.take k).length = k := by rw [List.length_take]; omega
  have hoO := World.ownsRow.kept e.ho hg (ne_swap (a := o) (b := ov2) (fun g h1 h2 => e.ne g h2 h1))
  have n6 : ∀ {g : Nat} {ty : TypeId} {cs : Array Value}, Bx w' g ty cs → ty ≠ 26 → g ≠ p6 := fun {g ty cs} h1 h2 e1 => by
    subst e1
    unfold Bx at h1 g6
    rw [g6] at h1; injection h1 with h1; injection h1 with _ h1
    exact h2 h1.symm
  refine ⟨g6, (kx e.gf (by decide)).far (p := ⟨p6, 1, none⟩) (n6 (kx e.gf (by decide)) (by decide)) _, (kx e.gc (by decide)).far (p := ⟨p6, 1, none⟩) (n6 (kx e.gc (by decide)) (by decide)) _, (kx e.g2 (by decide)).far (p := ⟨p6, 1, none⟩) hp2 _, ?_, kr e.hn (by decide) (by decide), kr e.hr (by decide) (by decide), ?_, kr e.hs (by decide) (by decide), e.hl, World.ownsRow.kept hoO hsc (own_not_bx hoO g6 (by decide)), fun i x q h1 h2 => kr (e.hf i x q h1 h2) (by decide) (by decide), e.hd, ?_, fun g h1 h2 => ?_⟩
  · have := g6.set (i := 1) v'
    simpa using this
  · obtain ⟨us, a1, a2, a3⟩ := e.ht
    exact ⟨us, a1, kr a2 (by decide) (by decide), fun i x l h1 h2 => kr (a3 i x l h1 h2) (by decide) (by decide)⟩
  · have hx2 : obC ((out.take (k + 1)).map (ob m)) ((out.take (k + 1)).map fun n => vs.getD n undef) = obC ((out.take k).map (ob m)) ((out.take k).map fun n => vs.getD n undef) ++ [.int .i64 (ob m n).ty, x] := by
      rw [ht, List.map_append, List.map_append, List.map_singleton, List.map_singleton, obC_snoc (by simp), hx]; rfl
    have hn' : n' = k + 1 := by
      have := o1.1
      rw [← hx2, obC_len (by simp), List.length_map, List.length_take] at this
      omega
    subst hn'
    rw [hx2]
    exact World.ownsRow.kept o1 hsc (own_not_bx o1 g6 (by decide))
  · rcases hb g h2 with h | h
    · exact e.ne g h1 h
    · have := (e.ho.lt g h1).2; omega
/-- .. all of them -/
theorem Cs.done (e : Cs b w pf pc p2 p6 t o s nv rv ov2 m out vs k) (hk : k = out.length) (hnd : out.Nodup) (hlt : ∀ n ∈ out, n < m.objs.length) : OwnM w b 48 t ov2 s ⟨m.types, out.map (ob m), m.slots⟩ := by
  subst hk
  have h2 := e.h2
  rw [List.take_length] at h2
  have hget : ∀ (i : Nat) x, (out.map fun n => vs.getD n undef)[i]? = some x → ∃ n, out[i]? = some n ∧ vs[n]? = some x ∧ m.objs[n]? = some (ob m n) := fun i x h => by
    rw [List.getElem?_map] at h
    obtain ⟨n, hn, hx⟩ := Option.map_eq_some_iff.1 h
    have hnl := hlt n (List.mem_of_getElem? hn)
    have hvl : n < vs.length := by rw [e.hl]; exact hnl
    have hv : vs[n]? = some vs[n] := List.getElem?_eq_getElem hvl
    have hob : m.objs[n]? = some m.objs[n] := List.getElem?_eq_getElem hnl
    refine ⟨n, hn, ?_, by rw [ob_at hob]; exact hob⟩
    rw [← hx, hv]; simp [List.getD_eq_getElem?_getD, hv]
  refine ⟨e.ht, ⟨out.map fun n => vs.getD n undef, by simp, by simpa using h2, fun i x q h1 h3 => ?_, fun i j x y hij h1 h3 => ?_⟩, e.hs⟩
  · obtain ⟨n, a1, a2, a3⟩ := hget i x h1
    have : q = ob m n := by
      have h3' : (out.map (ob m))[i]? = some q := h3
      rw [List.getElem?_map, a1] at h3'
      injection h3' with h3'; exact h3'.symm
    subst this
    exact e.hf n x _ a2 a3
  · obtain ⟨n, a1, a2, _⟩ := hget i x h1
    obtain ⟨n2, b1, b2, _⟩ := hget j y h3
    refine e.hd n n2 x y (fun h => hij ?_) a2 b2
    subst h
    exact (List.getElem?_inj (List.getElem?_eq_some_iff.1 a1).1 hnd).1 (a1.trans b1.symm)
end
set_option maxRecDepth 100000 in
set_option maxHeartbeats 4000000 in
/-- one reference, while the numbers become those of what is found -/
theorem canon_step {m m2 m' : Mo} {out : List Nat} {w0 wr W : World} {n i gf b pf pc p2 p6 : Nat} {t o s nv rv ov2 : Value} (hm2 : m2 = canB m out) (hc : chk m = 0) (hr : L20.Reach m out) (hn : n < m2.objs.length) (hi : i < (ob m2 n).fs.length) (hk3 : ((ty m2.types (ob m2 n)).getD i 0).toNat = 3)
    (omW : OwnM W b 48 t ov2 s m') (ofW : OwnF W b ov2 m'.objs n gf) (a1 : m' = mapP (numV (canN m out)) m2 n i) (gfd : Bx W pf 64 #[t, o, s, nv, rv]) (gc : Bx W pc 62 #[.pointer (some ⟨pf, 0, none⟩)]) (g2 : Bx W p2 26 #[.slice none 0 0, .slice none 0 0, .slice none 0 0]) (g6 : Bx W p6 26 #[t, ov2, s])
    (hnv : OwnI W b 3 nv (numsI m out)) (bb : Below b w0 W) (hb0 : b ≤ w0.heap.size) :
    Calls Try.prog 28 (#[] ++ (#[.int .i64 n, .pointer (some ⟨gf, i, none⟩)] ++ #[.pointer (some ⟨pc, 0, none⟩)])) W fun e W' => e = .returned (.tuple #[]) ∧ ∃ m'', Like m2 m'' ∧ OwnM W' b 48 t ov2 s m'' ∧ OwnF W' b ov2 m''.objs n gf ∧
      (m'' = mapP (numV (canN m out)) m2 n (i + 1) ∧ Bx W' pf 64 #[t, o, s, nv, rv] ∧ Bx W' pc 62 #[.pointer (some ⟨pf, 0, none⟩)] ∧ Bx W' p2 26 #[.slice none 0 0, .slice none 0 0, .slice none 0 0] ∧ Bx W' p6 26 #[t, ov2, s] ∧ OwnI W' b 3 nv (numsI m out) ∧ Below b w0 W') ∧ Fr wr.heap.size W W' ∧ KeepB b W W' := by
  obtain ⟨o', ho', hfi⟩ := mapP_fld (φ := numV (canN m out)) (m := m2) hn hi
  rw [← a1] at ho'
  obtain ⟨mc, mf, gB, gL⟩ := ofW.cell ho' hfi
  have hnl : n < m'.objs.length := (List.getElem?_eq_some_iff.1 ho').1
  have hT : m2.types = m.types := by rw [hm2]; rfl
  have hcr := can_ref hc hr (n := n) (i := i) (by rw [← hm2]; exact hn) (by rw [← hm2]; exact hi) (by rw [← hm2, ← hT]; exact hk3)
  rw [← hm2, ← hT] at hcr
  obtain ⟨v, hv⟩ : ∃ v, v = (ob m2 n).fs.getD i 0 := ⟨_, rfl⟩
  rw [← hv] at hcr mc hfi
  obtain ⟨hv1, hv2⟩ := hcr
  obtain ⟨x, hx1, hx2, hx3⟩ : ∃ x : Nat, (0 < v.toNat → (numsI m out)[v.toNat - 1]? = some (x : Int)) ∧ x ≤ 1000 ∧ (0 < v.toNat → (numV (canN m out) ((ty m2.types (ob m2 n)).getD i 0) v).toNat = x) := by
    by_cases h0 : 0 < v.toNat
    · obtain ⟨x, b1, b2, b3⟩ := hv2 h0
      exact ⟨x + 1, fun _ => by rw [b1]; rfl, by omega, fun _ => b3⟩
    · exact ⟨0, fun h => absurd h h0, by omega, fun h => absurd h h0⟩
  refine (Canon1_any n gf i pc pf v t o s nv rv (numsI m out) x W hx1 (by omega) (by omega) mc mf gc gfd hnv.rd).mono ?_
  rintro e w' ⟨rfl, hw'⟩
  refine ⟨rfl, ?_⟩
  by_cases h0 : 0 < v.toNat
  · rw [if_pos h0] at hw'
    have hW : Below W.heap.size W W.drew := (Below.refl _ W).drew
    have hst := OwnM.storeF (w := W.drew) (omW.below hW) (ofW.below hW) ho' hfi (numV (canN m out) ((ty m2.types (ob m2 n)).getD i 0) v)
    have hmp : putF m' n i (numV (canN m out) ((ty m2.types (ob m2 n)).getD i 0) v) = mapP (numV (canN m out)) m2 n (i + 1) := by rw [a1, hv]; exact mapP_step hn hi
    rw [hx3 h0, ← hw', hmp] at hst
    obtain ⟨k1, k2, k3⟩ := hst
    have far : ∀ {g t' cs}, gf ≠ g → Bx W g t' cs → Bx w' g t' cs := fun {g t' cs} hne hx => Bx.grown (w := W.drew) hx k3 (.inr (fun e => hne (by injection e)))
    have rowf : ∀ {B ee sz nn : Nat} {vv : Value} {xs : List Value}, W.ownsRow B ee sz vv nn xs → ee ≠ 46 → w'.ownsRow B ee sz vv nn xs := fun {B ee sz nn vv xs} h hne => by
      obtain ⟨vs, nf, cf, h1, h2, h4, h5, h6⟩ := ofW
      exact World.ownsRow.kept (w := W.drew) h k3 (own_unlike (w := W.drew) h (h4 n _ _ h6 (List.getElem?_eq_getElem hnl)) hne)
    refine ⟨_, mapP_like, k1, k2, ⟨rfl, far (ofW.ne_bx hnl gfd (by decide)) gfd, far (ofW.ne_bx hnl gc (by decide)) gc, far (ofW.ne_bx hnl g2 (by decide)) g2, far (ofW.ne_bx hnl g6 (by decide)) g6, rowf hnv (by decide), (bb.drew).grown k3 (Nat.le_trans hb0 bb.size) (fun k hk => by injection hk with hk; omega)⟩, ⟨k3.size, fun g t' cs hg hne hx => far (ofW.ne_bx hnl hx (Ne.symm hne)) hx⟩, fun v l hv => rowf hv (by decide)⟩
  · rw [if_neg h0] at hw'
    have hmp : m' = mapP (numV (canN m out)) m2 n (i + 1) := by
      rw [a1]
      refine (mapP_skip ?_).symm
      rw [← hv, numV_other (by omega)]
    subst hw'
    exact ⟨m', by rw [hmp]; exact mapP_like, omW, ofW, ⟨hmp, gfd, gc, g2, g6, hnv, bb⟩, ⟨Nat.le_refl _, fun _ _ _ _ _ h => h⟩, fun _ _ h => h⟩
set_option maxRecDepth 100000 in
set_option maxHeartbeats 8000000 in
theorem Canon20_any (tv ov sv : Value) (m : Mo) (hc : chk m = 0) (out : List Nat) (hr : Rs m [] (roots m) out) (w : World) (h : Mod w tv ov sv m) :
    Calls Try.prog 7 #[.agg #[tv, ov, sv]] w fun e w' => ∃ t' o' s', e = .returned (.tuple #[.agg #[t', o', s'], .int .i64 0]) ∧ Mod w' t' o' s' (canM m out) ∧ Below w.heap.size w w' := by
  have B : Below w.heap.size w w := Below.refl _ _
  have H := Lib.hid h
  have CT := Lib.hid (fun w h => Check20_any tv ov sv m 0 hc.symm w h)
  have CP := Lib.hid (fun w h => copied_any tv ov sv m (small_chk hc) w h)
  have hRe := Reach.of hc hr
  obtain ⟨N, hN⟩ : ∃ N, N = m.objs.length := ⟨_, rfl⟩
  have hN1 : N ≤ 960 := by rw [hN]; exact (chk_ok hc).2.1
  have lo := h.o.len
  rw [← hN] at lo
  have HN := Lib.hid hN; have HRE := Lib.hid hRe; have HC := Lib.hid hc
  clear h hc hr hRe hN
  go_enter Try.func7, Try.ntmps7
  go_upto_region 1 with (fail)
  refine wp_gen (fun Wv => Bx Wv (w.heap.size) (26) (#[tv, ov, sv]) ∧ Bx Wv (w.heap.size + 1) (26) (#[.slice none 0 0, .slice none 0 0, .slice none 0 0]) ∧ Below w.heap.size w Wv) ⟨(((Bx.at_ (by simp)).alloc _)), ((Bx.at_ (by simp))), (((Below.refl _ w).alloc (by simp <;> omega) _).alloc (by simp <;> omega) _)⟩ ?_
  rintro wa1 ⟨g1, g2, b⟩
  replace B := B.trans (b.mono B.size); clear b
  have c_g1 := g1.cell; have f_g1 := g1.free; have a_g1 := fun o => (g1.alloc o).cell; have d_g1 := fun o o2 => ((g1.alloc o).alloc o2).cell; have e_g1 := fun o => (g1.alloc o).free
  have c_g2 := g2.cell; have f_g2 := g2.free; have a_g2 := fun o => (g2.alloc o).cell; have d_g2 := fun o o2 => ((g2.alloc o).alloc o2).cell; have e_g2 := fun o => (g2.alloc o).free
  go_wp2_with fail
  refine (CT.out _ (H.out.below B)).mono ?_
  rintro e wa2 ⟨rfl, b⟩
  try clear c_g1 f_g1 a_g1 d_g1 e_g1
  replace g1 := g1.below b; have c_g1 := g1.cell; have f_g1 := g1.free; have a_g1 := fun o => (g1.alloc o).cell; have d_g1 := fun o o2 => ((g1.alloc o).alloc o2).cell; have e_g1 := fun o => (g1.alloc o).free; try clear c_g2 f_g2 a_g2 d_g2 e_g2
  replace g2 := g2.below b; have c_g2 := g2.cell; have f_g2 := g2.free; have a_g2 := fun o => (g2.alloc o).cell; have d_g2 := fun o o2 => ((g2.alloc o).alloc o2).cell; have e_g2 := fun o => (g2.alloc o).free; replace B := B.trans (b.mono B.size); clear b
  have hp2 := g2.lt
  go_upto_region 4 with (fail)
  have hz1 := B.size
  refine wp_region_ftail 9 [1, 5, 6, 7, 8] depC VC (ΦC wa2.heap.size N m) (by kernel_rfl) (by kernel_rfl) (by kernel_rfl) ?_ ?_ ?_ ?_
  · intro k hk g W W' h hb
    simp only [List.mem_cons, List.not_mem_nil, or_false] at hk
    rcases hk with rfl | rfl | rfl | rfl | rfl
    · obtain ⟨t, o, s, a1, a2⟩ := h; exact ⟨t, o, s, a1, a2.below hb⟩
    · exact OwnI.below h hb
    · exact h
    · obtain ⟨p, cs, a1, a2, a3, a4⟩ := h; exact ⟨p, cs, a1, a2, a3.below hb, a4⟩
    · obtain ⟨p, a1, a3, a4⟩ := h; exact ⟨p, a1, a3.below hb, a4⟩
  · intro k hk g g' W he h
    simp only [List.mem_cons, List.not_mem_nil, or_false] at hk
    rcases hk with rfl | rfl | rfl | rfl | rfl
    · obtain ⟨t, o, s, a1, a2⟩ := h; exact ⟨t, o, s, by rw [← he 1 (.inl rfl)]; exact a1, a2⟩
    · show OwnI W _ _ (g' 5) _; rw [← he 5 (.inl rfl)]; exact h
    · obtain ⟨t, o, s, a1, a2⟩ := h; exact ⟨t, o, s, by rw [← he 1 (by simp [depC])]; exact a1, by rw [← he 6 (.inl rfl), ← he 5 (by simp [depC])]; exact a2⟩
    · obtain ⟨p, cs, a1, a2, a3, a4⟩ := h; exact ⟨p, cs, by rw [← he 7 (.inl rfl)]; exact a1, by rw [← he 6 (by simp [depC])]; exact a2, a3, a4⟩
    · obtain ⟨p, a1, a3, a4⟩ := h; exact ⟨p, by rw [← he 8 (.inl rfl)]; exact a1, a3, a4⟩
  · intro k hk
    simp only [List.mem_cons, List.not_mem_nil, or_false] at hk
    rcases hk with rfl | rfl | rfl | rfl | rfl
    · exact ⟨_, none, 0, 0, none, 0, 0, none, 0, 0, rfl⟩
    · exact ⟨_, none, 0, 0, rfl⟩
    · exact ⟨_, #[.bool true, .bool true, .bool true, .bool true, .bool true], rfl, rfl, by simp [Value.oneCell']⟩
    · exact ⟨_, 0, rfl⟩
    · exact ⟨_, 0, rfl⟩
  intro g hV
  obtain ⟨tA, tn, tc, oA, on, oc, sA, sn, sc, e1⟩ := hV 1 (by simp)
  obtain ⟨nA, nn, nc, e5⟩ := hV 5 (by simp)
  obtain ⟨cs6, e6, hs6, ho6⟩ := hV 6 (by simp)
  obtain ⟨pf, e7⟩ := hV 7 (by simp)
  obtain ⟨pc, e8⟩ := hV 8 (by simp)
  have c_1 := fun x : Fut wa2 => (g1.below x.h).cell
  simp only [List.take_succ_cons, List.take_zero, List.drop_succ_cons, List.drop_zero]
  iterate 1 (refine wpH_read0 rfl rfl ?_; go_big_quiet_step (fail); refine wpQuiet_nil ?_)
  refine wpH_new rfl rfl (TS.call (av := #[.agg #[tv, ov, sv]]) (by simp [Act.eval]) (fun W => enter_copied _ W) ?_) ?_
  · intro W hW _
    refine (CP.out W (H.out.below (B.trans (hW.mono hz1)))).mono ?_
    rintro e W' ⟨t', o', s', rfl, om, bb⟩
    obtain ⟨⟨tA, tn, tc, rfl⟩, ⟨oA, on, oc, rfl⟩, ⟨sA, sn, sc, rfl⟩⟩ := om.forms
    exact ⟨_, rfl, ⟨_, _, _, _, _, _, _, _, _, rfl⟩, bb, fun g' hg' _ => ⟨_, _, _, hg', om.mono hW.size⟩⟩
  rw [e1]
  simp only [Act.put, List.setIfInBounds_toArray, List.set_cons_zero, List.set_cons_succ]
  iterate 2 (refine wpH_read0 rfl rfl ?_; go_big_quiet_step (fail); refine wpQuiet_nil ?_)
  refine wpH_pure rfl rfl (v := .int .i64 N) (fun W => by simp [execOp, resolve, invoke, builtin, Act.eval, lo]) ?_
  simp only [Act.put, List.setIfInBounds_toArray, List.set_cons_zero, List.set_cons_succ]
  refine wpH_new rfl rfl (TS.make rfl (lv := .int .i64 N) (cv := .int .i64 N) rfl rfl ?_) ?_
  · intro W hW _
    obtain ⟨v, W', r1, r2, r3⟩ := run_make_ints (w := W) N (by omega)
    refine ⟨v, W', r1, ?_, r3, fun g' hg' _ => ?_⟩
    · obtain ⟨A, c, e⟩ := own_form' r2; exact ⟨A, _, c, e⟩
    · show OwnI W' _ _ (g' 5) _; rw [hg']; exact own_mono r2 hW.size
  rw [e5]
  simp only [Act.put, List.setIfInBounds_toArray, List.set_cons_zero, List.set_cons_succ]
  refine wpH_new rfl rfl (TS.sem (s := Instr.build 64 #[(0, .agg #[.slice tA tn tc, .slice oA on oc, .slice sA sn sc]), (1, .slice nA nn nc)]) (by simp [execOp, Act.eval]) ?_) ?_
  · intro W hW hd
    obtain ⟨t, o, s, a1, a2⟩ := hd 1 (by simp [depC])
    rw [e1] at a1
    refine ⟨.agg #[.slice tA tn tc, .slice oA on oc, .slice sA sn sc, .slice nA nn nc, .slice none 0 0], W, by simp [go_sem], ⟨_, rfl, rfl, by simp [Value.oneCell']⟩, Below.refl _ _, fun g' hg' hj => ⟨.slice tA tn tc, .slice oA on oc, .slice sA sn sc, ?_, ?_⟩⟩
    · rw [hj 1 (by simp [depC]), e1]
    · rw [hg', hj 5 (by simp [depC]), e5]
  rw [e6]
  simp only [Act.put, List.setIfInBounds_toArray, List.set_cons_zero, List.set_cons_succ]
  refine wpH_new rfl rfl (TS.sem (s := Instr.box 64 (.agg cs6)) rfl ?_) ?_
  · intro W hW hd
    refine ⟨.pointer (some ⟨W.heap.size, 0, none⟩), W.alloc (.cells cs6 64), by simp [go_sem], ⟨_, rfl⟩, (Below.refl _ _).alloc (Nat.le_refl _) _, fun g' hg' hj => ⟨_, cs6, hg', ?_, Bx.new _ _ _, hW.size⟩⟩
    rw [hj 6 (by simp [depC]), e6]
  rw [e7]
  simp only [Act.put, List.setIfInBounds_toArray, List.set_cons_zero, List.set_cons_succ]
  refine wpH_new rfl rfl (TS.sem (s := Instr.alloc 62 true (.tuple #[])) rfl ?_) ?_
  · intro W hW hd
    exact ⟨.pointer (some ⟨W.heap.size, 0, none⟩), W.alloc (.cells #[.pointer none] 62), by simp [go_sem], ⟨_, rfl⟩, (Below.refl _ _).alloc (Nat.le_refl _) _, fun g' hg' hj => ⟨_, hg', Bx.new _ _ _, hW.size⟩⟩
  rw [e8]
  simp only [Act.put, List.setIfInBounds_toArray, List.set_cons_zero, List.set_cons_succ]
  refine wpH_nil ?_
  intro W0 bW hΦ
  have hfi : Fi wa2.heap.size W0 pf (.slice tA tn tc) (.slice oA on oc) (.slice sA sn sc) (.slice nA nn nc) (.slice none 0 0) m [] [] ∧ Bx W0 pc 62 #[.pointer none] ∧ wa2.heap.size ≤ pc := by
    obtain ⟨t, o, s, a1, om⟩ := hΦ 1 (by simp)
    have on5 := hΦ 5 (by simp)
    obtain ⟨t6, o6, s6, b1, b2⟩ := hΦ 6 (by simp)
    obtain ⟨p7, cs7, c1, c2, c3, c4⟩ := hΦ 7 (by simp)
    obtain ⟨p8, d1, d2, d3⟩ := hΦ 8 (by simp)
    rw [e1] at a1 b1
    injection a1 with a1
    injection a1 with a1
    injection a1 with x1 a1
    injection a1 with x2 a1
    injection a1 with x3 _
    injection b1 with b1
    injection b1 with b1
    injection b1 with y1 b1
    injection b1 with y2 b1
    injection b1 with y3 _
    subst x1; subst x2; subst x3; subst y1; subst y2; subst y3
    rw [e7] at c1; injection c1 with c1; injection c1 with c1; injection c1 with c1 _ _
    rw [e8] at d1; injection d1 with d1; injection d1 with d1; injection d1 with d1 _ _
    subst c1; subst d1
    rw [b2] at c2; injection c2 with c2
    rw [← c2, e5] at c3
    have on6 : OwnI W0 wa2.heap.size 3 (.slice nA nn nc) (List.replicate N 0) := by rw [← e5]; exact on5
    exact ⟨⟨c3, by rw [numsI_nil, ← HN.out]; exact on6, OwnI.nil _ _ _, om, fun g h1 h2 => (by cases h2), c4⟩, d2, d3⟩
  obtain ⟨f0, gc, hpc⟩ := hfi
  have hS := gc.set (i := 0) (.pointer (some ⟨pf, 0, none⟩))
  have FX := Lib.hid (show Fi wa2.heap.size (W0.setCell ⟨pc, 0, none⟩ (.pointer (some ⟨pf, 0, none⟩))) pf (.slice tA tn tc) (.slice oA on oc) (.slice sA sn sc) (.slice nA nn nc) (.slice none 0 0) m [] [] ∧ Bx (W0.setCell ⟨pc, 0, none⟩ (.pointer (some ⟨pf, 0, none⟩))) pc 62 #[.pointer (some ⟨pf, 0, none⟩)] ∧ Bx (W0.setCell ⟨pc, 0, none⟩ (.pointer (some ⟨pf, 0, none⟩))) (w.heap.size + 1) 26 #[.slice none 0 0, .slice none 0 0, .slice none 0 0] ∧ Below wa2.heap.size wa2 (W0.setCell ⟨pc, 0, none⟩ (.pointer (some ⟨pf, 0, none⟩))) from
    ⟨f0.sets gc (by decide) (by decide) (by decide) (by decide) (by decide) (by decide) (by decide), by simpa using hS, (g2.below bW).far (p := ⟨pc, 0, none⟩) (by show _ ≠ pc; have := g2.lt; omega) _, bW.setCell (p := ⟨pc, 0, none⟩) hpc _⟩)
  have c8 := gc.cell; have f8 := gc.free
  clear hS f0 bW hΦ e1 e5 e6 e7 e8 hV hs6 ho6 g gc c_1 c_g1 f_g1 a_g1 d_g1 e_g1 c_g2 f_g2 a_g2 d_g2 e_g2
  go_upto_region 5 with (fail)
  refine wp_gen (fun Wv => Fi wa2.heap.size Wv pf (.slice tA tn tc) (.slice oA on oc) (.slice sA sn sc) (.slice nA nn nc) (.slice none 0 0) m [] [] ∧ Bx Wv pc 62 #[.pointer (some ⟨pf, 0, none⟩)] ∧ Bx Wv (w.heap.size + 1) 26 #[.slice none 0 0, .slice none 0 0, .slice none 0 0] ∧ Below wa2.heap.size wa2 Wv) FX.out ?_
  clear FX c8 f8
  rintro w5 ⟨f5, gc, g2', b5⟩
  have c_f := f5.g.cell; have c_c := gc.cell
  refine wp_region_qtail 6 (by kernel_rfl) (by kernel_rfl) ?_
  simp only [List.take_succ_cons, List.take_zero, List.drop_succ_cons, List.drop_zero]
  iterate 6 (go_big_quiet_step (fail))
  refine wpQuiet_nil ?_
  have RT := Lib.hid (roots_any m HC.out wa2.heap.size pf _ _ _ _ _ out HRE.out.rs w5.drew (f5.below ((Below.refl _ w5).drew)) (Nat.le_trans b5.size (Nat.le_refl _)))
  have HX := Lib.hid (And.intro gc (And.intro g2' b5))
  clear c_f c_c f5 gc g2' b5
  go_wp2_with fail
  refine RT.out.mono ?_
  rintro e w6 ⟨rfl, rv, f6, t6, b6⟩
  obtain ⟨rA, rn, rc, rfl⟩ : ∃ A n c, rv = .slice A n c := by obtain ⟨A, c, e⟩ := own_form' f6.hr; exact ⟨A, _, c, e⟩
  have H6 := Lib.hid (show Bx w6 pc 62 #[.pointer (some ⟨pf, 0, none⟩)] ∧ Bx w6 (w.heap.size + 1) 26 #[.slice none 0 0, .slice none 0 0, .slice none 0 0] ∧ Below wa2.heap.size wa2 w6 from
    ⟨Bx.frT (w := w5.drew) HX.out.1 t6 (by decide) (by decide), Bx.frT (w := w5.drew) HX.out.2.1 t6 (by decide) (by decide), (HX.out.2.2.drew).trans b6⟩)
  have c_f := fun x : Fut w6 => (f6.g.below x.h).cell
  have c_c := fun x : Fut w6 => (H6.out.1.below x.h).cell
  clear RT HX t6 b6 w5
  go_upto_region 6 with (fail)
  refine wp_region_fblock 12 11 (fun p => .pointer (some ⟨p, 0, none⟩)) 26 (#[.slice none 0 0, .slice none 0 0, .slice none 0 0]) (mk_ptr) (by kernel_rfl) (by kernel_rfl) (by kernel_rfl) ?_
  intro gg p6 e6
  simp only [List.take_succ_cons, List.take_zero, List.drop_succ_cons, List.drop_zero]
  iterate 1 (refine wpH_read0 rfl rfl ?_; go_big_quiet_step (fail); refine wpQuiet_nil ?_)
  refine wpH_pure rfl rfl (v := .pointer (some ⟨pf, 0, none⟩)) (fun W => by simp [execOp, resolve, invoke, builtin, Act.eval, go_sem]) ?_
  simp only [Act.put, List.setIfInBounds_toArray, List.set_cons_zero, List.set_cons_succ]
  iterate 4 (refine wpH_read0 rfl rfl ?_; go_big_quiet_step (fail); refine wpQuiet_nil ?_)
  refine wpH_pure rfl rfl (v := .pointer (some ⟨pf, 0, none⟩)) (fun W => by simp [execOp, resolve, invoke, builtin, Act.eval, go_sem]) ?_
  simp only [Act.put, List.setIfInBounds_toArray, List.set_cons_zero, List.set_cons_succ]
  iterate 4 (refine wpH_read0 rfl rfl ?_; go_big_quiet_step (fail); refine wpQuiet_nil ?_)
  refine wpH_new rfl rfl (TS.block (Instr.alloc 26 true (.tuple #[])) rfl (fun W => by simp [go_sem])) ?_
  rw [e6]
  simp only [Act.put, List.setIfInBounds_toArray, List.set_cons_zero, List.set_cons_succ]
  refine wpH_nil ?_
  intro W0 bW g6 hp6
  have hpw : wa2.heap.size ≤ w6.heap.size := H6.out.2.2.size
  obtain ⟨f6', gc, g2', b6⟩ := And.intro (f6.below bW) (And.intro (H6.out.1.below bW) (And.intro (H6.out.2.1.below bW) (H6.out.2.2.trans (bW.mono hpw))))
  obtain ⟨vs, hl, ho, hf, hd⟩ := f6'.om.o
  have hCS : ∀ wv : World, wv = ((W0.setCell ⟨p6, 0, none⟩ (.slice tA tn tc)).setCell ⟨p6, 1, none⟩ (.slice none 0 0)).setCell ⟨p6, 2, none⟩ (.slice sA sn sc) → Cs wa2.heap.size wv pf pc (w.heap.size + 1) p6 (.slice tA tn tc) (.slice oA on oc) (.slice sA sn sc) (.slice nA nn nc) (.slice rA rn rc) (.slice none 0 0) m out vs 0 ∧ Below wa2.heap.size wa2 wv := by
    rintro wv rfl
    have far := fun {g : Nat} {ty : TypeId} {cs : Array Value} (h : Bx W0 g ty cs) (hne : g ≠ p6) => ((h.far (p := ⟨p6, 0, none⟩) hne (.slice tA tn tc)).far (p := ⟨p6, 1, none⟩) hne (.slice none 0 0)).far (p := ⟨p6, 2, none⟩) hne (.slice sA sn sc)
    have n6 : ∀ {g : Nat} {ty : TypeId} {cs : Array Value}, Bx W0 g ty cs → ty ≠ 26 → g ≠ p6 := fun {g ty cs} h1 h2 e1 => by
      subst e1
      unfold Bx at h1 g6
      rw [g6] at h1; injection h1 with h1; injection h1 with _ h1
      exact h2 h1.symm
    have e6' := ((g6.set (i := 0) (.slice tA tn tc)).set (i := 1) (.slice none 0 0))
    have e60 := g6.set (i := 0) (.slice tA tn tc)
    have kr := fun {B ee sz nn : Nat} {vv : Value} {xs : List Value} (h : W0.ownsRow B ee sz vv nn xs) (h1 : ee ≠ 26) => own_set (i := 2) (u := .slice sA sn sc) (own_set (i := 1) (u := .slice none 0 0) (own_set (i := 0) (u := .slice tA tn tc) h g6 h1) e60 h1) e6' h1
    refine ⟨⟨far f6'.g (n6 f6'.g (by decide)), far gc (n6 gc (by decide)), far g2' (by have := g2.lt; omega), ?_, kr f6'.hn (by decide), kr f6'.hr (by decide), ?_, kr f6'.om.s (by decide), hl, kr ho (by decide), fun i x q h1 h2 => kr (hf i x q h1 h2) (by decide), hd, by simpa [obC] using World.ownsRow_nil _ _ _ _, fun g h1 h2 => (by cases h2)⟩, ?_⟩
    · have := e6'.set (i := 2) (.slice sA sn sc)
      simpa using this
    · obtain ⟨us, a1, a2, a3⟩ := f6'.om.t
      exact ⟨us, a1, kr a2 (by decide), fun i x l h1 h2 => kr (a3 i x l h1 h2) (by decide)⟩
    · exact ((b6.setCell (p := ⟨p6, 0, none⟩) (by show _ ≤ p6; omega) _).setCell (p := ⟨p6, 1, none⟩) (by show _ ≤ p6; omega) _).setCell (p := ⟨p6, 2, none⟩) (by show _ ≤ p6; omega) _
  have HCS := Lib.hid (hCS _ rfl)
  have c6 := g6.cell; have f6c := g6.free
  have hp26 : w.heap.size + 1 ≠ p6 := by have := g2.lt; omega
  have hp6b : wa2.heap.size ≤ p6 := by omega
  clear hCS f6' gc g2' b6 hl ho hf hd f6 H6 bW g6 hp6 hpw c_f c_c e6 gg
  go_upto_region 7 with (fail)
  refine wp_gen (fun Wv => Cs wa2.heap.size Wv pf pc (w.heap.size + 1) p6 (.slice tA tn tc) (.slice oA on oc) (.slice sA sn sc) (.slice nA nn nc) (.slice rA rn rc) (.slice none 0 0) m out vs 0 ∧ Below wa2.heap.size wa2 Wv) HCS.out ?_
  clear HCS c6 f6c w6 W0
  rintro w7 ⟨cs7, b7⟩
  have c_f := cs7.gf.cell; have c_c := cs7.gc.cell
  have ln := Rd.len (OwnI.rd cs7.hr) Try.underlying30
  obtain ⟨K, hK⟩ : ∃ K, K = out.length := ⟨_, rfl⟩
  rw [natI_len, ← hK] at ln
  have hK1 : K ≤ 960 := by rw [hK]; have := HRE.out.len; rw [← HN.out] at this; omega
  have HK := Lib.hid hK
  have H7 := Lib.hid (And.intro cs7 b7)
  clear cs7 b7 hK
  go_wp2
  clear c_f c_c ln
  go_loopg [48] K (fun gg i wr => ∃ k : Nat, k ≤ K ∧ gg = K - k ∧ i = .int .i64 k ∧ Hid (∃ ov2, Cs wa2.heap.size wr pf pc (w.heap.size + 1) p6 (.slice tA tn tc) (.slice oA on oc) (.slice sA sn sc) (.slice nA nn nc) (.slice rA rn rc) ov2 m out vs k ∧ Below wa2.heap.size wa2 wr))
  case atStart => exact ⟨0, by omega, by omega, rfl, Lib.hid ⟨_, H7.out⟩⟩
  case round =>
    clear H7
    obtain ⟨k, hk, rfl, rfl, hh⟩ := hrel
    obtain ⟨ov2, cs, bb⟩ := hh.out
    by_cases hlt : k < K
    · obtain ⟨n, hn⟩ : ∃ n, out[k]? = some n := ⟨_, List.getElem?_eq_getElem (by rw [← HK.out]; exact hlt)⟩
      have hnl := HRE.out.lt n (List.mem_of_getElem? hn)
      obtain ⟨xa, x, ixx, mx, hx⟩ := (OwnI.rd cs.hr).at_ (P := Try.prog) Try.underlying30 one_int (k := k) (by rw [natI_len, ← HK.out]; exact hlt)
      obtain rfl : x = (n : Int) := by
        have h1 := hx.out
        rw [natI, List.getElem?_map, hn] at h1
        simpa using h1.symm
      obtain ⟨bo, bq, x0, ixo, p0, p1, hx0, hone⟩ := cs.at_ hnl
      obtain ⟨ov2A, ov2n, ov2c, rfl⟩ : ∃ A n c, ov2 = .slice A n c := by obtain ⟨A, c, e⟩ := own_form' cs.h2; exact ⟨A, _, c, e⟩
      have HC2 := Lib.hid (And.intro cs bb)
      have HX := Lib.hid (And.intro hn hx0)
      have HONE := Lib.hid hone
      have c_6 := fun x : Fut wr => (cs.g6.below x.h).cell
      have c_c := fun x : Fut wr => (cs.gc.below x.h).cell
      have c_f := fun x : Fut wr => (cs.gf.below x.h).cell
      have q0 := fun x : Fut wr => cell_later x.h p0
      have q1 := fun x : Fut wr => cell_later x.h p1
      obtain ⟨qq, hqq⟩ : ∃ q, q = (ob m n).ty := ⟨_, rfl⟩
      rw [← hqq] at q0
      have HQ := Lib.hid hqq
      clear hh cs bb hn hx hx0 hone p0 p1 hqq
      go_upto_region 10 with (fail)
      refine wp_region_fblock 11 10 (fun p => .slice (some ⟨p, 0, none⟩) 1 1) 45 (#[.int .i64 qq, x0]) (mk_sl 1) (by kernel_rfl) (by kernel_rfl) (by kernel_rfl) ?_
      intro gg pq eq
      simp only [List.take_succ_cons, List.take_zero, List.drop_succ_cons, List.drop_zero]
      iterate 3 (refine wpH_read0 rfl rfl ?_; go_big_quiet_step (fail); refine wpQuiet_nil ?_)
      refine wpH_pure rfl rfl (v := .pointer (some ⟨pf, 0, none⟩)) (fun W => by simp [execOp, resolve, invoke, builtin, Act.eval, go_sem]) ?_
      simp only [Act.put, List.setIfInBounds_toArray, List.set_cons_zero, List.set_cons_succ]
      iterate 6 (refine wpH_read0 rfl rfl ?_; go_big_quiet_step (fail); refine wpQuiet_nil ?_)
      refine wpH_new rfl rfl (TS.block (Instr.buildSlice 23 1 #[(0, .agg #[.int .i64 qq, x0])]) (by simp [execOp, Act.eval]) (fun W => by simp [go_sem, HONE.out])) ?_
      rw [eq]
      simp only [Act.put, List.setIfInBounds_toArray, List.set_cons_zero, List.set_cons_succ]
      refine wpH_nil ?_
      intro W1 bW gq hpq
      have e1 := HC2.out.1.below bW
      refine wpList_append2 (by rfl) rfl rfl (ad := ⟨pq, 0, none⟩) (m := 1) (c := 1) rfl Try.underlying23 info_obj rfl (by omega) e1.h2 (ys := [.int .i64 qq, x0]) ?_ ?_ (by omega) (by omega) (by omega) ((HC2.out.2).trans (bW.mono HC2.out.2.size)) (Nat.le_refl _) ?_
      · exact gq.rdK (n := 1) (sz := 2) rfl (by omega)
      · intro u hu
        simp only [List.mem_cons, List.not_mem_nil, or_false] at hu
        rcases hu with rfl | rfl
        · rfl
        · exact HONE.out
      intro v1 w3 o1 b1 g1 n1
      obtain ⟨vA, vn1, vc, rfl⟩ : ∃ A n c, v1 = .slice A n c := by obtain ⟨A, c, e⟩ := own_form' o1; exact ⟨A, _, c, e⟩
      rw [HQ.out] at o1
      have PS := Lib.hid (e1.push HX.out.1 HX.out.2 hp26 o1 g1 n1)
      have BB := Lib.hid (b1.setCell (p := ⟨p6, 1, none⟩) hp6b (.slice vA vn1 vc))
      simp only [Act.put, List.setIfInBounds_toArray, List.set_cons_zero, List.set_cons_succ]
      have c66 := PS.out.1.cell; have f66 := PS.out.1.free
      clear o1 b1 g1 n1 e1 gq hpq bW eq gg c_6 c_c c_f q0 q1 HC2 HX HONE HQ W1 ixx mx ixo
      go_wp2
      clear c66 f66
      go_roundg (K - (k + 1))
      case measure => omega
      case rel => exact ⟨k + 1, by omega, rfl, by go_num, Lib.hid ⟨_, PS.out.2, BB.out⟩⟩
    · obtain rfl : k = K := by omega
      have om := cs.done HK.out HRE.out.nd HRE.out.lt
      obtain ⟨ov2A, ov2n, ov2c, rfl⟩ : ∃ A n c, ov2 = .slice A n c := by obtain ⟨A, c, e⟩ := own_form' cs.h2; exact ⟨A, _, c, e⟩
      obtain ⟨J, hJ⟩ : ∃ J : Nat → Nat → Mo → World → Prop, J = fun n i m' W => m' = mapP (numV (canN m out)) (canB m out) n i ∧ Bx W pf 64 #[.slice tA tn tc, .slice oA on oc, .slice sA sn sc, .slice nA nn nc, .slice rA rn rc] ∧ Bx W pc 62 #[.pointer (some ⟨pf, 0, none⟩)] ∧ Bx W (w.heap.size + 1) 26 #[.slice none 0 0, .slice none 0 0, .slice none 0 0] ∧ Bx W p6 26 #[.slice tA tn tc, .slice ov2A ov2n ov2c, .slice sA sn sc] ∧ OwnI W wa2.heap.size 3 (.slice nA nn nc) (numsI m out) ∧ Below wa2.heap.size wa2 W := ⟨_, rfl⟩
      have hrough : Rough (canB m out) := by
        refine ⟨by have := HRE.out.len; have := HN.out; simp [canB]; omega, fun o ho => ?_⟩
        have ho' : o ∈ out.map (ob m) := ho
        rw [List.mem_map] at ho'
        obtain ⟨n, hn, rfl⟩ := ho'
        have hlt := HRE.out.lt n hn
        exact (rough_chk HC.out m.slots).o _ (by show ob m n ∈ m.objs; rw [ob, List.getD_eq_getElem?_getD, List.getElem?_eq_getElem hlt]; exact List.getElem_mem hlt)
      have hlo : (canB m out).objs.length = out.length := by simp [canB]
      have RF := Lib.hid (refs_any (canB m out) (.slice tA tn tc) (.slice ov2A ov2n ov2c) (.slice sA sn sc) 28 #[] #[.pointer (some ⟨pc, 0, none⟩)] wa2.heap.size J wr bb.size hrough (fun _ _ => rfl)
          (by
            intro n i m' W W' hj hb
            subst hJ
            obtain ⟨a1, a2, a3, a4, a5, a6, a7⟩ := hj
            exact ⟨a1, a2.below hb, a3.below hb, a4.below hb, a5.below hb, a6.below hb, a7.trans (hb.mono a7.size)⟩)
          (by
            intro n m' W hn hj
            subst hJ
            exact ⟨hj.1.trans mapP_next, hj.2⟩)
          (by
            intro n i m' W hn hi hk3 hj
            subst hJ
            exact ⟨hj.1.trans (mapP_skip (numV_other (fun h => hk3 h.1))).symm, hj.2⟩)
          (by
            intro n i m' gf W hn hi hk3 hl hW omW ofW hj
            subst hJ
            obtain ⟨a1, a2, a3, a4, a5, a6, a7⟩ := hj
            exact canon_step rfl HC.out HRE.out hn hi hk3 omW ofW a1 a2 a3 a4 a5 a6 a7 (Nat.le_refl _))
          (canB m out) (Like.refl _) om (by subst hJ; exact ⟨by rw [mapP_zero], cs.gf, cs.gc, cs.g2, cs.g6, cs.hn, bb⟩))
      have c6 := cs.g6.cell
      have HJ := Lib.hid hJ
      have HM := Lib.hid (canB_done HRE.out (numV (canN m out)))
      clear hh cs bb om hJ hrough
      go_wp2_with fail
      refine RF.out.mono ?_
      rintro e w8 ⟨rfl, m3, hl3, om, hj3⟩
      rw [HJ.out] at hj3
      obtain ⟨a1, gfd, gc, g2', g6, hnv, bb⟩ := hj3
      rw [hlo, HM.out] at a1
      obtain ⟨gS, sc', hS1⟩ : ∃ g c, Value.slice sA sn sc = .slice (some ⟨g, 0, none⟩) 16 c := by
        have h16 := (chk_ok HC.out).2.2.1
        obtain ⟨g, n, c, e, e2⟩ := om.s.form (by rw [a1]; show 0 < m.slots.length; omega)
        rw [a1] at e2
        have e2' : n = m.slots.length := e2
        rw [e2', h16] at e; exact ⟨g, c, e⟩
      cases hS1
      obtain ⟨X, hX⟩ : ∃ X, X = out.map fun n => mapO (numV (canN m out)) m.types (ob m n) (ob m n).fs.length := ⟨_, rfl⟩
      rw [← hX] at a1
      subst a1
      have HX := Lib.hid hX
      have c6 := g6.cell
      have H8 := Lib.hid (And.intro om (And.intro gfd (And.intro gc (And.intro g2' (And.intro g6 (And.intro hnv bb))))))
      clear om gfd gc g2' g6 hnv bb hX hl3 RF HM
      go_wp2
      clear c6
      go_loopg [72] 16 (fun gg i wr => ∃ j : Nat, j ≤ 16 ∧ gg = 16 - j ∧ i = .int .i64 j ∧ Hid (OwnM wr wa2.heap.size 48 (.slice tA tn tc) (.slice ov2A ov2n ov2c) (.slice (some ⟨gS, 0, none⟩) 16 sc) ⟨m.types, X, mapT (numS (canN m out)) m.slots j⟩ ∧ Bx wr pf 64 #[.slice tA tn tc, .slice oA on oc, .slice (some ⟨gS, 0, none⟩) 16 sc, .slice nA nn nc, .slice rA rn rc] ∧ Bx wr pc 62 #[.pointer (some ⟨pf, 0, none⟩)] ∧ Bx wr (w.heap.size + 1) 26 #[.slice none 0 0, .slice none 0 0, .slice none 0 0] ∧ Bx wr p6 26 #[.slice tA tn tc, .slice ov2A ov2n ov2c, .slice (some ⟨gS, 0, none⟩) 16 sc] ∧ OwnI wr wa2.heap.size 3 (.slice nA nn nc) (numsI m out) ∧ Below wa2.heap.size wa2 wr))
      case atStart => exact ⟨0, by omega, by omega, rfl, Lib.hid (by rw [mapT_zero]; exact H8.out)⟩
      case round =>
        clear H8
        obtain ⟨j, hj, rfl, rfl, hh⟩ := hrel
        obtain ⟨om, gfd, gc, g2', g6, hnv, bb⟩ := hh.out
        by_cases hlt : j < 16
        · obtain ⟨s, hs⟩ : ∃ s, m.slots[j]? = some s := ⟨_, List.getElem?_eq_getElem (by rw [(chk_ok HC.out).2.2.1]; exact hlt)⟩
          have hs2 := mapT_get (f := numS (canN m out)) hs
          obtain ⟨ix, q0, q1, q2⟩ := OwnS.cells om.s hs2
          have hso := (chk_ok HC.out).2.2.2.2.2 s (List.mem_of_getElem? hs)
          have HSL := Lib.hid hs
          have HX2 := Lib.hid hh.out
          obtain ⟨wn, hwn⟩ : ∃ W, W = wr := ⟨_, rfl⟩
          subst hwn
          clear hh gfd gc g2' g6 hnv bb
          go_upto_region 16 with (fail)
          refine wp_gen (fun Wv => Bx Wv wn.heap.size 48 #[.int .i64 s.gen, .bool s.used, .int .i64 s.at_] ∧ Below wn.heap.size wn Wv) ⟨Bx.new wn _ _, (Below.refl _ wn).alloc (Nat.le_refl _) _⟩ ?_
          rintro wx ⟨g10, b⟩
          obtain ⟨om, gfd, gc, g2', g6, hnv, bb⟩ := HX2.out
          have hsz := bb.size
          replace om := om.below b; replace gfd := gfd.below b; replace gc := gc.below b; replace g2' := g2'.below b; replace g6 := g6.below b; replace hnv := hnv.below b; replace bb := bb.trans (b.mono hsz)
          have c10 := g10.cell
          clear HX2 ix q0 q1 q2 b hsz
          cases hu : s.used
          · rw [hu] at c10
            have HE := Lib.hid (mapT_same (f := numS (canN m out)) HSL.out (by rw [numS, hu]; simp))
            have HF := Lib.hid (And.intro om (And.intro gfd (And.intro gc (And.intro g2' (And.intro g6 (And.intro hnv bb))))))
            clear om gfd gc g2' g6 hnv bb hs hs2 hso
            go_wp2
            go_roundg (16 - (j + 1))
            case measure => omega
            case rel =>
              refine ⟨j + 1, by omega, rfl, by go_num, Lib.hid ?_⟩
              rw [HE.out]; exact HF.out
          · rw [hu] at c10
            obtain ⟨a1, a2, a3⟩ := hso.2.2 hu
            obtain ⟨x, hx⟩ := Int.eq_ofNat_of_zero_le a2
            rw [hx] at c10
            have hxl : x < m.objs.length := by omega
            have hxin : x ∈ out := HRE.out.rs.mem x (by rw [roots, List.mem_filterMap]; exact ⟨s, List.mem_of_getElem? hs, by rw [rootOf, hu, hx]; rfl⟩)
            obtain ⟨id, hid⟩ : ∃ q, q = out.idxOf x := ⟨_, rfl⟩
            have hidl : id < 960 := by
              rw [hid]
              have h1 := List.idxOf_lt_length_of_mem hxin
              have h2 := HRE.out.len
              have h3 := (chk_ok HC.out).2.1
              omega
            obtain ⟨xa, y, ixx, mx, hy⟩ := (OwnI.rd hnv).at_ (P := Try.prog) Try.underlying30 one_int (k := x) (by rw [numsI_len]; exact hxl)
            obtain rfl : y = (id : Int) + 1 := by
              have h1 := hy.out
              rw [numsI_get hxl, if_pos hxin, ← hid] at h1
              injection h1 with h1; exact h1.symm
            have HE := Lib.hid (mapT_set (f := numS (canN m out)) HSL.out)
            have HNS := Lib.hid (show numS (canN m out) s = ⟨s.gen, s.used, (id : Int)⟩ by
              rw [numS, if_pos hu, hx, Int.toNat_natCast, List.getD_eq_getElem?_getD, canN_get hxl, if_pos hxin, ← hid, hu]; rfl)
            have HP := Lib.hid (OwnS.put1 (w := wx.drew) om.s hs2 (id : Int))
            obtain ⟨ix, q0, q1, q2⟩ := OwnS.cells om.s hs2
            have q2' : wx.drew.cell? ⟨gS, j * 3 + 2, none⟩ = some (.int .i64 x) := by rw [← hx]; exact q2
            have fz : ∀ j, wx.drew.frozen? ⟨gS, j, none⟩ = false := HP.out.2.2.2.2
            have omd : OwnM wx.drew wa2.heap.size 48 (.slice tA tn tc) (.slice ov2A ov2n ov2c) (.slice (some ⟨gS, 0, none⟩) 16 sc) ⟨m.types, X, mapT (numS (canN m out)) m.slots j⟩ := om.below ((Below.refl _ wx).drew)
            have hM3 := OwnM.slots omd HP.out.2.1 HP.out.1
            have nx := fun {q : Nat} {tq : TypeId} {cs : Array Value} (hb : Bx wx q tq cs) (hne : gS ≠ q) => Bx.grown (w := wx.drew) hb HP.out.2.1 (.inr (fun e => hne (by injection e)))
            have y1 := nx gfd (own_ne_bx om.s gfd (by decide)); have y2 := nx gc (own_ne_bx om.s gc (by decide)); have y3 := nx g2' (own_ne_bx om.s g2' (by decide)); have y4 := nx g6 (own_ne_bx om.s g6 (by decide))
            have y5 : OwnI (wx.drew.setCell ⟨gS, j * 3 + 2, none⟩ (.int .i64 (id : Int))) wa2.heap.size 3 (.slice nA nn nc) (numsI m out) := World.ownsRow.kept (w := wx.drew) hnv HP.out.2.1 (own_unlike (w := wx.drew) hnv omd.s (by decide))
            have hb3 := (bb.drew).grown HP.out.2.1 (Nat.le_trans (Nat.le_refl _) bb.size) (fun k hk => by injection hk with hk; rw [← hk]; exact HP.out.2.2.1)
            have HH := Lib.hid (And.intro hM3 (And.intro y1 (And.intro y2 (And.intro y3 (And.intro y4 (And.intro y5 hb3))))))
            have c6 := g6.cell; have cf := gfd.cell; have cc := gc.cell
            have hwi : IntKind.i64.wrap (id : Int) = (id : Int) := IntWalk.i64_in _ (by omega)
            clear nx y1 y2 y3 y4 y5 hb3 hM3 om omd gfd gc g2' g6 hnv bb q0 q1 hy hs hs2 hso a1 a2 a3 hx hxin hid HP
            go_upto_region 17 with (fail)
            refine wp_region_qtail 14 (by kernel_rfl) (by kernel_rfl) ?_
            simp only [List.take_succ_cons, List.take_zero, List.drop_succ_cons, List.drop_zero]
            iterate 14 (go_big_quiet_step (fail))
            refine wpQuiet_nil ?_
            clear c6 cf cc c10 mx ixx
            go_wp2
            clear ix q2 q2' fz
            go_roundg (16 - (j + 1))
            case measure => omega
            case rel =>
              refine ⟨j + 1, by omega, rfl, by go_num, Lib.hid ?_⟩
              rw [← HE.out, HNS.out]
              exact ⟨HH.out.1.below (Below.refl _ _), HH.out.2⟩
        · obtain rfl : j = 16 := by omega
          rw [mapT_done (by rw [(chk_ok HC.out).2.2.1]; exact Nat.le_refl _)] at om
          have hfin : (⟨m.types, X, m.slots.map (numS (canN m out))⟩ : Mo) = canM m out := by rw [canM_eq HRE.out, HX.out]
          rw [hfin] at om
          have HOM := Lib.hid om
          have BB := bb.mono hz1
          have B2 := B.trans BB
          have c6 := g6.cell; have c3 := g2'.cell; have f3 := g2'.free
          clear hh om gfd gc g6 hnv bb hfin BB
          go_wp2
          refine bodyPost_ret (v := .tuple #[.agg #[.slice tA tn tc, .slice ov2A ov2n ov2c, .slice (some ⟨gS, 0, none⟩) 16 sc], .int .i64 0]) (by simp [results, Try.results7, go_sem, c3, f3]) rfl ?_
          refine ⟨_, _, _, rfl, (OwnM.set3 HOM.out g2').rd, ?_⟩
          exact ((B2.setCell (p := ⟨w.heap.size + 1, 0, none⟩) (by simp) _).setCell (p := ⟨w.heap.size + 1, 1, none⟩) (by simp) _).setCell (p := ⟨w.heap.size + 1, 2, none⟩) (by simp) _
end Go.Proofs.Yteejianjjpdimaa
