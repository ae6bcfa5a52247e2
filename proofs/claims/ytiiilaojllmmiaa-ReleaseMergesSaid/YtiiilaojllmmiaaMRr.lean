/- Contracts of the functions that the laws 'R' reach, part 18. No condition. -/
import Derived.Test.YtiiilaojllmmiaaMRq
set_option linter.unusedVariables false
set_option linter.unusedSimpArgs false
namespace Go.Proofs.Ytiiilaojllmmiaa
open Go.RowKit L01 L02 L05 L06 L07 L13 L14 L15 L18 L19 L20
theorem ask_res {l : List UInt64} {sl g : Int} (h : askI l sl g = 0) : resErr l sl g = 0 := by
  unfold askI at h
  by_cases hc : chk19 l = 0
  · rwa [if_pos hc] at h
  · rw [if_neg hc] at h; exact absurd h hc
set_option maxRecDepth 100000 in
set_option maxHeartbeats 2000000 in
theorem open23_any (v : Value) (l : List UInt64) (sl g : Int) (p r : Int) (hp : p = atI l sl g) (hr : r = askI l sl g) (w : World) (h : Words w v l) :
    Calls Try.prog 58 #[v, .agg #[.int .i64 sl, .int .i64 g]] w fun e w' => e = .returned (.tuple #[.int .i64 p, .int .i64 r]) ∧ Below w.heap.size w w' := by
  have B : Below w.heap.size w w := Below.refl _ _
  have H := Lib.hid h
  obtain ⟨c, hc⟩ : ∃ c, c = chk19 l := ⟨_, rfl⟩
  have CK := Lib.hid (fun w h => Check19_any v l c hc w h)
  by_cases h0 : c = 0
  case neg =>
    have hra : r = c := by rw [hr, askI, if_neg (by rw [← hc]; exact h0), hc]
    obtain rfl : p = 0 := by rw [hp, atI, if_neg (by rw [← hr, hra]; exact h0)]
    subst hra
    have n1 : (r != 0) = true := by rw [bne_iff_ne]; exact h0
    clear hp hr h hc h0
    go_enter Try.func58, Try.ntmps58
    go_upto_region 1 with (fail)
    refine wp_gen (fun Wv => Bx Wv (w.heap.size) (24) (#[.int .i64 sl, .int .i64 g]) ∧ Below w.heap.size w Wv) ⟨((Bx.at_ (by simp))), ((Below.refl _ w).alloc (by simp <;> omega) _)⟩ ?_
    rintro wa1 ⟨g1, b⟩
    replace B := B.trans (b.mono B.size); clear b
    have c_g1 := g1.cell; have f_g1 := g1.free; have a_g1 := fun o => (g1.alloc o).cell; have d_g1 := fun o o2 => ((g1.alloc o).alloc o2).cell; have e_g1 := fun o => (g1.alloc o).free
    go_wp2_with fail
    refine (CK.out _ (H.out.below B)).mono ?_
    rintro e wa2 ⟨rfl, b⟩
    try clear c_g1 f_g1 a_g1 d_g1 e_g1
    replace g1 := g1.below b; have c_g1 := g1.cell; have f_g1 := g1.free; have a_g1 := fun o => (g1.alloc o).cell; have d_g1 := fun o o2 => ((g1.alloc o).alloc o2).cell; have e_g1 := fun o => (g1.alloc o).free; replace B := B.trans (b.mono B.size); clear b
    go_wp2
    go_ret2
    exact ⟨rfl, B⟩
  case pos =>
    subst h0
    obtain ⟨x, hx⟩ : ∃ x, x = res l sl g := ⟨_, rfl⟩
    have ha : askI l sl g = resErr l sl g := by rw [askI, if_pos hc.symm]
    have RT := Lib.hid (fun w h => Resolve_any v l sl g x r hx (by rw [hr, ha]) w h)
    obtain rfl : p = x := by
      rw [hp, hx, atI]
      by_cases h1 : askI l sl g = 0
      · rw [if_pos h1]
      · rw [if_neg h1, res, if_neg (by rw [← ha]; exact h1)]
    clear hp hr h hc hx ha
    go_enter Try.func58, Try.ntmps58
    go_upto_region 1 with (fail)
    refine wp_gen (fun Wv => Bx Wv (w.heap.size) (24) (#[.int .i64 sl, .int .i64 g]) ∧ Below w.heap.size w Wv) ⟨((Bx.at_ (by simp))), ((Below.refl _ w).alloc (by simp <;> omega) _)⟩ ?_
    rintro wa1 ⟨g1, b⟩
    replace B := B.trans (b.mono B.size); clear b
    have c_g1 := g1.cell; have f_g1 := g1.free; have a_g1 := fun o => (g1.alloc o).cell; have d_g1 := fun o o2 => ((g1.alloc o).alloc o2).cell; have e_g1 := fun o => (g1.alloc o).free
    go_wp2_with fail
    refine (CK.out _ (H.out.below B)).mono ?_
    rintro e wa2 ⟨rfl, b⟩
    try clear c_g1 f_g1 a_g1 d_g1 e_g1
    replace g1 := g1.below b; have c_g1 := g1.cell; have f_g1 := g1.free; have a_g1 := fun o => (g1.alloc o).cell; have d_g1 := fun o o2 => ((g1.alloc o).alloc o2).cell; have e_g1 := fun o => (g1.alloc o).free; replace B := B.trans (b.mono B.size); clear b
    go_wp2_with fail
    refine (RT.out _ (H.out.below B)).mono ?_
    rintro e wa3 ⟨rfl, b⟩
    try clear c_g1 f_g1 a_g1 d_g1 e_g1
    replace g1 := g1.below b; have c_g1 := g1.cell; have f_g1 := g1.free; have a_g1 := fun o => (g1.alloc o).cell; have d_g1 := fun o o2 => ((g1.alloc o).alloc o2).cell; have e_g1 := fun o => (g1.alloc o).free; replace B := B.trans (b.mono B.size); clear b
    go_wp2
    go_ret2
    exact ⟨rfl, B⟩
set_option maxRecDepth 100000 in
set_option maxHeartbeats 2000000 in
theorem Drop23_any (v : Value) (l : List UInt64) (sl g : Int) (E : List (Int × UInt64)) (r : Int) (hx : E = diL l sl g) (hr : r = askI l sl g) (w : World) (h : Words w v l) :
    Calls Try.prog 25 #[v, .agg #[.int .i64 sl, .int .i64 g]] w fun e w' => ∃ y, e = .returned (.tuple #[y, .int .i64 r]) ∧ OwnE w' w.heap.size y E ∧ Below w.heap.size w w' := by
  have B : Below w.heap.size w w := Below.refl _ _
  have H := Lib.hid h
  obtain ⟨p, hp⟩ : ∃ c, c = atI l sl g := ⟨_, rfl⟩
  have OT := Lib.hid (fun w h => open23_any v l sl g p r hp hr w h)
  by_cases h0 : r = 0
  case neg =>
    obtain rfl : E = [] := by rw [hx, diL, if_neg (by rw [← hr]; exact h0)]
    have n1 : (r != 0) = true := by rw [bne_iff_ne]; exact h0
    clear hx hr h hp h0
    go_enter Try.func25, Try.ntmps25
    go_upto_region 1 with (fail)
    refine wp_gen (fun Wv => Bx Wv (w.heap.size) (24) (#[.int .i64 sl, .int .i64 g]) ∧ Below w.heap.size w Wv) ⟨((Bx.at_ (by simp))), ((Below.refl _ w).alloc (by simp <;> omega) _)⟩ ?_
    rintro wa1 ⟨g1, b⟩
    replace B := B.trans (b.mono B.size); clear b
    have c_g1 := g1.cell; have f_g1 := g1.free; have a_g1 := fun o => (g1.alloc o).cell; have d_g1 := fun o o2 => ((g1.alloc o).alloc o2).cell; have e_g1 := fun o => (g1.alloc o).free
    go_wp2_with fail
    refine (OT.out _ (H.out.below B)).mono ?_
    rintro e wa2 ⟨rfl, b⟩
    try clear c_g1 f_g1 a_g1 d_g1 e_g1
    replace g1 := g1.below b; have c_g1 := g1.cell; have f_g1 := g1.free; have a_g1 := fun o => (g1.alloc o).cell; have d_g1 := fun o o2 => ((g1.alloc o).alloc o2).cell; have e_g1 := fun o => (g1.alloc o).free; replace B := B.trans (b.mono B.size); clear b
    go_wp2
    go_ret2
    exact ⟨_, rfl, OwnE.nil _ _, B⟩
  case pos =>
    subst h0
    obtain ⟨ea, hea⟩ : ∃ c, c = dropAt l sl g := ⟨_, rfl⟩
    obtain ⟨ev, hev⟩ : ∃ c, c = dropVal l sl g := ⟨_, rfl⟩
    have DT := Lib.hid (fun w h => Drop18_any v l sl g ea ev 0 hea hev (ask_res hr.symm).symm w h)
    obtain rfl : E = [(ea, ev)] := by rw [hx, diL, if_pos hr.symm, hea, hev]
    clear hx hr h hp hea hev
    go_enter Try.func25, Try.ntmps25
    go_upto_region 1 with (fail)
    refine wp_gen (fun Wv => Bx Wv (w.heap.size) (24) (#[.int .i64 sl, .int .i64 g]) ∧ Below w.heap.size w Wv) ⟨((Bx.at_ (by simp))), ((Below.refl _ w).alloc (by simp <;> omega) _)⟩ ?_
    rintro wa1 ⟨g1, b⟩
    replace B := B.trans (b.mono B.size); clear b
    have c_g1 := g1.cell; have f_g1 := g1.free; have a_g1 := fun o => (g1.alloc o).cell; have d_g1 := fun o o2 => ((g1.alloc o).alloc o2).cell; have e_g1 := fun o => (g1.alloc o).free
    go_wp2_with fail
    refine (OT.out _ (H.out.below B)).mono ?_
    rintro e wa2 ⟨rfl, b⟩
    try clear c_g1 f_g1 a_g1 d_g1 e_g1
    replace g1 := g1.below b; have c_g1 := g1.cell; have f_g1 := g1.free; have a_g1 := fun o => (g1.alloc o).cell; have d_g1 := fun o o2 => ((g1.alloc o).alloc o2).cell; have e_g1 := fun o => (g1.alloc o).free; replace B := B.trans (b.mono B.size); clear b
    go_wp2_with fail
    refine (DT.out _ (H.out.below B)).mono ?_
    rintro e wa3 ⟨rfl, b⟩
    try clear c_g1 f_g1 a_g1 d_g1 e_g1
    replace g1 := g1.below b; have c_g1 := g1.cell; have f_g1 := g1.free; have a_g1 := fun o => (g1.alloc o).cell; have d_g1 := fun o o2 => ((g1.alloc o).alloc o2).cell; have e_g1 := fun o => (g1.alloc o).free; replace B := B.trans (b.mono B.size); clear b
    go_upto_region 5 with (fail)
    refine wp_gen (fun Wv => Bx Wv (wa3.heap.size) (47) (#[.int .i64 ea, .int .u64 ev.toNat]) ∧ Below wa3.heap.size wa3 Wv) ⟨((Bx.at_ (by simp))), ((Below.refl _ wa3).alloc (by simp <;> omega) _)⟩ ?_
    rintro wa4 ⟨g2, b⟩
    try clear c_g1 f_g1 a_g1 d_g1 e_g1
    replace g1 := g1.below b; have c_g1 := g1.cell; have f_g1 := g1.free; have a_g1 := fun o => (g1.alloc o).cell; have d_g1 := fun o o2 => ((g1.alloc o).alloc o2).cell; have e_g1 := fun o => (g1.alloc o).free; replace B := B.trans (b.mono B.size); clear b
    have c_g2 := g2.cell; have f_g2 := g2.free; have a_g2 := fun o => (g2.alloc o).cell; have d_g2 := fun o o2 => ((g2.alloc o).alloc o2).cell; have e_g2 := fun o => (g2.alloc o).free
    go_wp2
    go_ret2
    exact ⟨_, rfl, ent_own B.size, B.alloc B.size _⟩
end Go.Proofs.Ytiiilaojllmmiaa
namespace Go.Proofs.Ytiiilaojllmmiaa
open Go.RowKit Go.Maps L02 L13 L18 L20
/-- .. that has just n entries, those whose keys K tells -/
def MapN (P : Program) (k e : TypeId) (z0 : Lit) (W : World) (g n : Nat) (f : Int → Lit) (K : Int → Bool) : Prop :=
  ∃ D : DataW Unit, W.ownsMap P k (plainElem P e) g n D ∧ (∀ a, D.atKey (.int .i64 a) (.lit z0) = .lit (f a)) ∧ size D = n ∧ ∀ a, has D (.int .i64 a) = K a
section
variable {P : Program} {k e : TypeId} {z0 : Lit} {W : World} {g n : Nat} {f : Int → Lit} {K : Int → Bool}
theorem MapN.mapL (h : MapN P k e z0 W g n f K) : MapL P k e z0 W g n f := by obtain ⟨D, h1, h2, _⟩ := h; exact ⟨D, h1, h2⟩
theorem MapN.made (W : World) : MapN P k e z0 (W.alloc (.map #[] 0)) W.heap.size 0 (fun _ => z0) (fun _ => false) :=
  ⟨.map [], World.ownsMap_made W P k _, fun a => rfl, rfl, fun a => rfl⟩
theorem MapN.kept {W' : World} {row : Option Nat} (h : MapN P k e z0 W g n f K) (hg : W.grownBy W' row) (hne : some g ≠ row) : MapN P k e z0 W' g n f K := by
  obtain ⟨D, h1, h2⟩ := h; exact ⟨D, h1.kept hg hne, h2⟩
theorem MapN.below {W' : World} (h : MapN P k e z0 W g n f K) (hb : Below W.heap.size W W') : MapN P k e z0 W' g n f K := by
  obtain ⟨D, ⟨es, clock, hh, F, hs, hD⟩, h2⟩ := h
  exact ⟨D, ⟨es, clock, (hb.block g (Array.getElem?_eq_some_iff.1 hh).1).trans hh, F, hs, hD⟩, h2⟩
theorem MapL.block (h : MapL P k e z0 W g n f) : ∃ es clock, W.heap[g]? = some (.map es clock) := by
  obtain ⟨D, ⟨es, clock, hh, _⟩, _⟩ := h; exact ⟨es, clock, hh⟩
theorem MapN.len {t : TypeId} (h : MapN P k e z0 W g n f K) (ht : P.underlying t = some (.map k e)) : ∀ ty, (Builtin.len_ #[t] ty #[.map (some g)]).run P W = .ok (.int .i64 (n : Int)) W := by
  obtain ⟨D, h1, _, h3, _⟩ := h
  intro ty
  rw [h1.len ht ty, h3]
theorem MapN.put {t : TypeId} (h : MapN P k e z0 W g n f K) (hk : P.underlying k = some (.int .i64)) (ht : P.underlying t = some (.map k e)) (hn : n < maxLen) {a : Int} (ha : i64Ok a) (hK : K a = false) {v : Value} {l : Lit} (hv : plainElem (H := Unit) P e v = some (.lit l, [])) :
    ∃ W', (Instr.mapUpdate t (.map (some g)) (.int .i64 a) v).run P W = .ok () W' ∧ MapN P k e z0 W' g (n + 1) (fun b => if b = a then l else f b) (fun b => decide (b = a) || K b) ∧ W.grownBy W' (some g) := by
  obtain ⟨D, h1, h2, h3, h4⟩ := h
  obtain ⟨W', r1, r2, r3⟩ := h1.update (int_keyed hk) ht hn (keyOf_int_mk hk (lit_wf ha)) hv
  refine ⟨W', r1, ⟨_, r2, fun b => ?_, ?_, fun b => ?_⟩, r3⟩
  · by_cases hb : b = a
    · subst hb
      show _ = DataW.lit (if b = b then l else f b)
      rw [if_pos rfl]
      exact atKey_put_same (h1.isMap) ((int_keyed hk).key (keyOf_int_mk hk (lit_wf ha))) _ _
    · show _ = DataW.lit (if b = a then l else f b)
      rw [if_neg hb, atKey_put_other (by intro e; injection e with _ e; exact hb e), h2]
  · rw [size_put (h1.tidy (int_keyed hk)), h4, hK, h3]; rfl
  · by_cases hb : b = a
    · subst hb
      rw [has_put_same h1.isMap ((int_keyed hk).key (keyOf_int_mk hk (lit_wf ha)))]; simp
    · rw [has_put_other (by intro e; injection e with _ e; exact hb e), h4]; simp [hb]
/-- a store at the operation, for the walk -/
theorem wpList_mapPutN {ops : Array Oper} {rest : List Oper} {o : Oper} {a : Act} {Q : Exit → Act → World → Prop} (hg : o.guard = none) {m x v : Operand} {t : TypeId} (hop : o.op = Op.mapUpdate t m x v) (hk : P.underlying k = some (.int .i64)) (ht : P.underlying t = some (.map k e))
    (hm : a.eval m = .map (some g)) {key : Int} {val : Value} {l : Lit} (hx : a.eval x = .int .i64 key) (hv : a.eval v = val) (h : MapN P k e z0 W g n f K) (hn : n < maxLen) (hkey : i64Ok key) (hK : K key = false) (hval : plainElem (H := Unit) P e val = some (.lit l, []))
    (hC : ∀ W', MapN P k e z0 W' g (n + 1) (fun b => if b = key then l else f b) (fun b => decide (b = key) || K b) → W.grownBy W' (some g) → wpList P ops Q rest (a.put o.dst undef) W') : wpList P ops Q (o :: rest) a W := by
  refine wpList_plain hg fun K' hK' => ?_
  obtain ⟨W', hrun, r1, r2⟩ := h.put hk ht hn hkey hK hval
  unfold Oper.wp
  simp [execOp, hop, hm, hx, hv, hrun, Result.andThen]
  exact hK' _ _ (hC W' r1 r2)
/-- a row does not lie in a map's block -/
theorem own_ne_map {B e' sz n' : Nat} {v : Value} {xs : List Value} {es : Array MapEntry} {clock : Nat} (h : W.ownsRow B e' sz v n' xs) (hm : W.heap[g]? = some (.map es clock)) : v.ownBlock = none ∨ v.ownBlock ≠ some g := by
  rcases h.2 with ⟨rfl, _⟩ | ⟨g', cap, cur, rfl, _, hg', _⟩
  · exact .inl rfl
  · refine .inr ?_
    intro he
    simp [Value.ownBlock] at he
    subst he
    rw [hg'] at hm
    injection hm with hm
    cases hm
theorem Bx.ne_map {p : Nat} {t : TypeId} {cs : Array Value} {es : Array MapEntry} {clock : Nat} (h : Bx W p t cs) (hm : W.heap[g]? = some (.map es clock)) : g ≠ p := by
  rintro rfl
  unfold Bx at h
  rw [h] at hm
  injection hm with hm
  cases hm
theorem row_keptM {W' : World} {B e' sz n' : Nat} {v : Value} {xs : List Value} {es : Array MapEntry} {clock : Nat} (h : W.ownsRow B e' sz v n' xs) (hm : W.heap[g]? = some (.map es clock)) (hg : W.grownBy W' (some g)) : W'.ownsRow B e' sz v n' xs :=
  World.ownsRow.kept h hg (own_ne_map h hm)
theorem OwnT.keptM {W' : World} {B : Nat} {v : Value} {L : List (List UInt8)} {es : Array MapEntry} {clock : Nat} (h : OwnT W B v L) (hm : W.heap[g]? = some (.map es clock)) (hg : W.grownBy W' (some g)) : OwnT W' B v L := by
  obtain ⟨vs, a1, a2, a4⟩ := h
  exact ⟨vs, a1, row_keptM a2 hm hg, fun i x l h5 h6 => row_keptM (a4 i x l h5 h6) hm hg⟩
theorem Bx.keptM {W' : World} {p : Nat} {t : TypeId} {cs : Array Value} {es : Array MapEntry} {clock : Nat} (h : Bx W p t cs) (hm : W.heap[g]? = some (.map es clock)) (hg : W.grownBy W' (some g)) : Bx W' p t cs :=
  h.grown hg (.inr (fun e => h.ne_map hm (by injection e)))
end
end Go.Proofs.Ytiiilaojllmmiaa
namespace Go.Proofs.Ytiiilaojllmmiaa
open Go.RowKit L01 L02 L05 L06 L07 L13 L14 L15 L18 L19 L20
theorem All18_own (v : Value) (l : List UInt64) (L : List Sl) (hL : L = slots l) (h0 : openErr l = 0) (w : World) (h : Words w v l) :
    Calls Try.prog 30 #[v] w fun e w' => ∃ x, e = .returned (.tuple #[x, .int .i64 0]) ∧ OwnS w' w.heap.size 116 x L ∧ Below w.heap.size w w' := by
  have B : Below w.heap.size w w := Below.refl _ _
  obtain ⟨V, hV⟩ : ∃ V, V = tab (tabOf l) := ⟨_, rfl⟩
  have HOT := Lib.hid (fun w h => open_any v l V hV 0 h0.symm w h); have H := Lib.hid h; clear h
  have hVs : V.size = 48 := by rw [hV]; exact tabOf_size l
  have hV1 : V.all (·.oneCell') = true := by rw [hV]; exact tab_one _
  have hVL : V = tab L := by rw [hV, tabOf_ok h0, hL]
  have hL16 : L.length = 16 := by rw [hL]; exact slots16 h0
  have HVs := Lib.hid hVs; have HV1 := Lib.hid hV1; have HVL := Lib.hid hVL; have HL16 := Lib.hid hL16
  clear h0 hVs hV1 hVL hL16 hV hL
  go_enter Try.func30, Try.ntmps30
  go_wp2_with fail
  refine (HOT.out _ (H.out.below B)).mono ?_
  rintro e w' ⟨rfl, b⟩
  replace B := B.trans (b.mono B.size); clear b
  go_wp2_with ((with_reducible refine at_store 116 4 9 ?_); refine wpList_storeNew rfl _ _ _ rfl rfl V rfl rfl (by rw [HVs.out]; exact size_table) (by rw [HVs.out]; rfl) HV1.out ?_; intro W q1 b1)
  go_ret2
  exact ⟨_, rfl, q1.ownS B.size HVL.out HL16.out, B.trans (b1.mono B.size)⟩
/-- one more object at the end of a model's objects: all else is kept -/
structure PushO (wr W' w : World) (B0 p : Nat) (v xt ys : Value) (L : List Ob) (o : Ob) : Prop where
  own : OwnO W' B0 v (L ++ [o])
  md : Bx W' p 87 #[xt, v, ys]
  below : Below B0 w W'
  row : ∀ {B e sz n : Nat} {x : Value} {xs : List Value}, wr.ownsRow B e sz x n xs → e ≠ 140 → e ≠ 87 → W'.ownsRow B e sz x n xs
  bx : ∀ {q : Nat} {t : TypeId} {cs : Array Value}, Bx wr q t cs → q ≠ p → 140 ≠ t → Bx W' q t cs
  map : ∀ {k e : TypeId} {z0 : Lit} {g n : Nat} {f : Int → Lit} {K : Int → Bool}, MapN Try.prog k e z0 wr g n f K → MapN Try.prog k e z0 W' g n f K
theorem PushO.t {wr W' w : World} {B0 p : Nat} {v xt ys : Value} {L : List Ob} {o : Ob} (h : PushO wr W' w B0 p v xt ys L o) {B : Nat} {x : Value} {T : List (List UInt8)} (hT : OwnT wr B x T) : OwnT W' B x T := by
  obtain ⟨vs, a1, a2, a4⟩ := hT
  exact ⟨vs, a1, h.row a2 (by decide) (by decide), fun i x l h5 h6 => h.row (a4 i x l h5 h6) (by decide) (by decide)⟩
theorem pushO {w wr W1 W3 : World} {B0 p n : Nat} {ot y v xt ys : Value} {vs : List Value} {L : List Ob} {o : Ob}
    (z1 : vs.length = L.length) (z2 : wr.ownsRow B0 140 2 ot L.length (obC L vs)) (z4 : ∀ (i : Nat) x l, vs[i]? = some x → L[i]? = some l → OwnW wr B0 25 x l.fs)
    (z5 : ∀ (i j : Nat) x y, i ≠ j → vs[i]? = some x → vs[j]? = some y → x.ownBlock = none ∨ x.ownBlock ≠ y.ownBlock)
    (oy : OwnW W1 wr.heap.size 25 y o.fs) (b1 : Below wr.heap.size wr W1) (hown : W3.ownsRow B0 140 2 v n (obC L vs ++ [i64 o.ty, y])) (hgr : (W1.alloc (.cells #[i64 o.ty, y] 140)).grownBy W3 ot.ownBlock)
    (q3 : Bx wr p 87 #[xt, ot, ys]) (B : Below B0 w wr) (hB : B0 ≤ wr.heap.size) (hp : B0 ≤ p) :
    (W3.cell? ⟨p, 1, none⟩ = some ot ∧ W3.frozen? ⟨p, 1, none⟩ = false) ∧ PushO wr (W3.setCell ⟨p, 1, none⟩ v) w B0 p v xt ys L o := by
  have b2 : Below wr.heap.size wr (W1.alloc (.cells #[i64 o.ty, y] 140)) := b1.alloc b1.size _
  have z2' := own_below z2 b2
  have nx := fun {g : Nat} {cs : Array Value} (hq : Bx (W1.alloc (.cells #[i64 o.ty, y] 140)) g 87 cs) => Bx.grown hq hgr (own_not_bx z2' hq (by decide))
  have r3 := nx (q3.below b2)
  have oO : OwnO W3 B0 v (L ++ [o]) := OwnO.snoc z1 z2' hown (fun i x l h5 h6 => OwnW.below (z4 i x l h5 h6) b2) z5 (OwnW.below (own_mono oy hB) ((Below.refl _ W1).alloc (Nat.le_refl _) _))
    (fun i x hx => own_ne (z4 i x _ hx (List.getElem?_eq_getElem (by have := (List.getElem?_eq_some_iff.1 hx).1; omega))) oy (Nat.le_refl _)) hgr
  have B3 : Below B0 w W3 := (B.trans (b2.mono hB)).grown hgr (Nat.le_trans hB b2.size) (fun k hk => (z2'.lt k hk).1)
  refine ⟨⟨r3.cell 1, r3.free 1⟩, oO.set r3 (by decide) (by decide), ?_, B3.setCell (p := ⟨p, 1, none⟩) hp _, ?_, ?_, ?_⟩
  · have := r3.set (i := 1) v
    simpa using this
  · intro B e sz n x xs h h1 h2
    exact own_set (World.ownsRow.kept (own_below h b2) hgr (own_unlike (own_below h b2) z2' h1)) r3 h2
  · intro q t cs h h1 h2
    exact ((h.below b2).grown hgr (own_not_bx z2' (h.below b2) h2)).far (p := ⟨p, 1, none⟩) h1 _
  · intro k e z0 g n f K h
    have h2 := h.below b2
    obtain ⟨es, ck, hm⟩ := h2.mapL.block
    have h3 := h2.kept hgr (fun e => by
      rcases own_ne_map z2' hm with h | h
      · rw [h] at e; cases e
      · exact h e.symm)
    obtain ⟨es', ck', hm'⟩ := h3.mapL.block
    exact h3.kept (grown_set _ ⟨p, 1, none⟩ _) (fun e => r3.ne_map hm' (by injection e))
theorem OwnM.slotsE {w W : World} {B E g n c : Nat} {tv ov : Value} {m : Mo} {S : List Sl} (h : OwnM w B E tv ov (.slice (some ⟨g, 0, none⟩) n c) m) (hg : w.grownBy W (some g)) (hS : OwnS W B E (.slice (some ⟨g, 0, none⟩) n c) S) (h1 : 68 ≠ E) (h2 : 5 ≠ E) (h3 : 140 ≠ E) (h4 : 25 ≠ E) :
    OwnM W B E tv ov (.slice (some ⟨g, 0, none⟩) n c) ⟨m.types, m.objs, S⟩ := by
  refine ⟨OwnT.kept h.t h.s hg h1 h2, ?_, hS⟩
  obtain ⟨vs, a1, a2, a4, a5⟩ := h.o
  exact ⟨vs, a1, World.ownsRow.kept a2 hg (own_unlike a2 h.s h3), fun i x l h5 h6 => World.ownsRow.kept (a4 i x l h5 h6) hg (own_unlike (a4 i x l h5 h6) h.s h4), a5⟩
theorem OwnM.set3E {w : World} {B E p : Nat} {tv ov sv a b c : Value} {m : Mo} {cs : Array Value} (h : OwnM w B E tv ov sv m) (hg : Bx w p 87 cs) (hE : E ≠ 87) :
    OwnM (((w.setCell ⟨p, 0, none⟩ a).setCell ⟨p, 1, none⟩ b).setCell ⟨p, 2, none⟩ c) B E tv ov sv m := by
  have st : ∀ {w : World} {cs : Array Value} {i : Nat} {u : Value}, OwnM w B E tv ov sv m → Bx w p 87 cs → OwnM (w.setCell ⟨p, i, none⟩ u) B E tv ov sv m := fun h hg => ⟨h.t.set hg (by decide) (by decide), h.o.set hg (by decide) (by decide), own_set h.s hg hE⟩
  exact st (st (st h hg) (hg.set a)) ((hg.set a).set b)
/-- the number of the object at an address, or 0 -/
def numI (O : List Hb) (a : Int) : Int := match idx O a with | some i => (i : Int) | none => 0
theorem numI_idxI {O : List Hb} {a : Int} (h : IsObj O a) : numI O a = idxI O a := by
  obtain ⟨i, b, h1, _⟩ := idx_of h
  unfold numI idxI; rw [h1]
theorem numI_rng {O : List Hb} {a : Int} (h : O.length ≤ 960) : 0 ≤ numI O a ∧ numI O a ≤ 960 := by
  unfold numI
  cases h2 : idx O a with
  | none => exact ⟨Int.le_refl _, by decide⟩
  | some i =>
    obtain ⟨b, h3, _⟩ := idx_some h2
    have := (List.getElem?_eq_some_iff.1 h3).1
    show 0 ≤ (i : Int) ∧ (i : Int) ≤ 960
    exact ⟨by omega, by omega⟩
theorem numI_snoc {O : List Hb} {b : Hb} {a : Int} (hb : ¬ IsObj O b.at_) : numI (O ++ [b]) a = if a = b.at_ then (O.length : Int) else numI O a := by
  unfold numI
  rw [idx_app]
  by_cases h : a = b.at_
  · subst h
    rw [if_pos rfl, idx_none.2 hb, idx, if_pos rfl]
    show ((0 + O.length : Nat) : Int) = _
    omega
  · rw [if_neg h]
    cases idx O a with
    | some i => rfl
    | none => rw [idx, if_neg (fun e => h e.symm), idx]; rfl
theorem objs_new {l : List UInt64} (h : allErr l = 0) {j : Nat} {b : Hb} (hb : (allL l)[j]? = some b) : ¬ IsObj (objs ((allL l).take j)) b.at_ := by
  rintro ⟨c, hc, e⟩
  obtain ⟨hc1, _⟩ := objs_mem.1 hc
  obtain ⟨i, hi⟩ := List.getElem?_of_mem hc1
  have hi1 := (List.getElem?_eq_some_iff.1 hi).1
  rw [List.length_take] at hi1
  rw [List.getElem?_take_of_lt (by omega)] at hi
  have hp := List.pairwise_iff_getElem.1 (chain_apart (chain_iff.1 (parsed_ok.1 (allErr_ok h).2).1)).2
  obtain ⟨i1, i2⟩ := List.getElem?_eq_some_iff.1 hi
  obtain ⟨j1, j2⟩ := List.getElem?_eq_some_iff.1 hb
  have := hp i j i1 j1 (by omega)
  rw [i2, j2] at this
  obtain ⟨x, _, _, hs, h4, _⟩ := all_mem h (List.mem_of_getElem? hi)
  have hz := szN_ge hs
  have : c.size = szN l x := by rw [h4]; exact stand_size hs
  omega
theorem inKinds {l : List UInt64} (rt : Rt l) {b : Hb} (hb : b ∈ O19 l) : ∃ (a q : Nat) (t : List UInt8), b.at_ = a ∧ b.ty = q ∧ (T19 l)[q]? = some t ∧ kindsB (T19 l) b = t ∧ 128 ≤ a ∧ a ≤ 2048 ∧ a + 2 + t.length ≤ l.length ∧ t.length ≤ 8 := by
  have hty : Typed (T19 l) b := rt.good 8 (by omega) (by omega) b hb
  obtain ⟨a, q, t, ha, hq, hTq, hkB, _, hle, _⟩ := in_kinds (in19_of rt.al hb) hty
  have hkE : kErr t = 0 := (T19_ok rt.ty).2 t (List.mem_of_getElem? hTq)
  obtain ⟨a', h1, h2, h3, h4, _⟩ := objs_at rt.al hb
  have := rt.sz.2.1
  exact ⟨a, q, t, ha, hq, hTq, hkB, by omega, by omega, hle, (kErr_ok hkE).1⟩
end Go.Proofs.Ytiiilaojllmmiaa
namespace Go.Proofs.Ytiiilaojllmmiaa
open Go.RowKit L02 L13 L18 L20
/-- objects of the call's own, of which number n has its fields in block gf -/
def OwnF (w : World) (base : Nat) (v : Value) (L : List Ob) (n gf : Nat) : Prop := ∃ (vs : List Value) (nf cf : Nat), vs.length = L.length ∧ w.ownsRow base 140 2 v L.length (obC L vs) ∧ (∀ (i : Nat) x o, vs[i]? = some x → L[i]? = some o → OwnW w base 25 x o.fs) ∧
  (∀ (i j : Nat) x y, i ≠ j → vs[i]? = some x → vs[j]? = some y → x.ownBlock = none ∨ x.ownBlock ≠ y.ownBlock) ∧ vs[n]? = some (.slice (some ⟨gf, 0, none⟩) nf cf)
theorem OwnF.own {w : World} {base n gf : Nat} {v : Value} {L : List Ob} (h : OwnF w base v L n gf) : OwnO w base v L := by
  obtain ⟨vs, nf, cf, h1, h2, h4, h5, _⟩ := h; exact ⟨vs, h1, h2, h4, h5⟩
theorem OwnF.below {w w' : World} {base n gf : Nat} {v : Value} {L : List Ob} (h : OwnF w base v L n gf) (hb : Below w.heap.size w w') : OwnF w' base v L n gf := by
  obtain ⟨vs, nf, cf, h1, h2, h4, h5, h6⟩ := h; exact ⟨vs, nf, cf, h1, own_below h2 hb, fun i x l h5 h6 => (h4 i x l h5 h6).below hb, h5, h6⟩
theorem OwnF.mono {w : World} {base base' n gf : Nat} {v : Value} {L : List Ob} (h : OwnF w base v L n gf) (hb : base' ≤ base) : OwnF w base' v L n gf := by
  obtain ⟨vs, nf, cf, h1, h2, h4, h5, h6⟩ := h; exact ⟨vs, nf, cf, h1, own_mono h2 hb, fun i x l h5 h6 => own_mono (h4 i x l h5 h6) hb, h5, h6⟩
theorem OwnF.set {w : World} {B p i n gf : Nat} {v u : Value} {L : List Ob} {t : TypeId} {cs : Array Value} (h : OwnF w B v L n gf) (hg : Bx w p t cs) (h1 : 140 ≠ t) (h2 : 25 ≠ t) : OwnF (w.setCell ⟨p, i, none⟩ u) B v L n gf := by
  obtain ⟨vs, nf, cf, a1, a2, a4, a5, a6⟩ := h; exact ⟨vs, nf, cf, a1, own_set a2 hg h1, fun i x l h5 h6 => own_set (a4 i x l h5 h6) hg h2, a5, a6⟩
theorem OwnF.cell {w : World} {base n gf i : Nat} {v : Value} {L : List Ob} {o : Ob} {x : UInt64} (h : OwnF w base v L n gf) (ho : L[n]? = some o) (hx : o.fs[i]? = some x) :
    w.cell? ⟨gf, i, none⟩ = some (.int .u64 x.toNat) ∧ w.frozen? ⟨gf, i, none⟩ = false ∧ base ≤ gf ∧ gf < w.heap.size := by
  obtain ⟨vs, nf, cf, h1, h2, h4, h5, h6⟩ := h
  have hr := h4 n _ _ h6 ho
  have hi : i < o.fs.length := (List.getElem?_eq_some_iff.1 hx).1
  have hn : nf = o.fs.length := by
    obtain ⟨g', cap, cur, hv, _⟩ := own_form hr (by omega)
    injection hv
  subst hn
  have hl := hr.lt gf rfl
  have hc := Rd.cell (OwnW.rd hr) (j := i) (u := u64 x) (by rw [List.getElem?_map, hx]; rfl)
  refine ⟨?_, hr.frozenAt i, hl.1, hl.2⟩
  simpa [cellAt, u64] using hc
/-- where an own object lies; x the slice of its fields -/
theorem OwnO.at_ {w : World} {base : Nat} {v : Value} {L : List Ob} (h : OwnO w base v L) {n : Nat} {o : Ob} (ho : L[n]? = some o) (hf : 0 < o.fs.length) :
    ∃ b q gf nf cf, (∀ W, (Instr.indexAt 85 v (.int .i64 (n : Int))).run Try.prog W = .ok (.pointer (some ⟨b, q, none⟩)) W) ∧ w.cell? ⟨b, q, none⟩ = some (.int .i64 o.ty) ∧ w.cell? ⟨b, q + 1, none⟩ = some (.slice (some ⟨gf, 0, none⟩) nf cf) ∧ b < w.heap.size ∧ OwnF w base v L n gf ∧ nf = o.fs.length ∧
      ∀ i, i < o.fs.length → ∀ W, (Instr.indexAt 22 (.slice (some ⟨gf, 0, none⟩) nf cf) (.int .i64 (i : Int))).run Try.prog W = .ok (.pointer (some ⟨gf, i, none⟩)) W := by
  obtain ⟨vs, h1, h2, h4, h5⟩ := h
  have hk : n < L.length := (List.getElem?_eq_some_iff.1 ho).1
  have hv : vs[n]? = some vs[n] := List.getElem?_eq_getElem (by omega)
  have hr := h4 n _ _ hv ho
  obtain ⟨gf, cap, cur, hvv, _⟩ := own_form hr hf
  have hix := fun W => Rd.ixN (P := Try.prog) (Rd.of_own h2) Try.underlying85 size_obj hk W
  obtain ⟨b, q, c, rfl, hb, hc, hcell⟩ := Rd.form (Rd.of_own h2) (by omega)
  obtain ⟨c0, c1⟩ := obC_get ho hv
  rw [hvv] at c1 hv hr
  refine ⟨b, q + n * 2, gf, _, cap, fun W => hix W, hcell _ _ c0, hcell _ _ c1, hb, ⟨vs, _, cap, h1, h2, h4, h5, hv⟩, rfl, fun i hi W => ?_⟩
  have := Rd.ixN (P := Try.prog) (OwnW.rd hr) Try.underlying22 one_u64 hi W
  simpa [cellAt] using this
theorem obC_setFs : ∀ {L : List Ob} {vs : List Value} {n : Nat} {o : Ob} {f : List UInt64}, L[n]? = some o → obC (L.set n ⟨o.ty, f⟩) vs = obC L vs
  | [], _, _, _, _, h => by simp at h
  | o :: L, [], 0, o', f, h => rfl
  | o :: L, x :: vs, 0, o', f, h => by simp at h; subst h; rfl
  | o :: L, [], n + 1, o', f, h => rfl
  | o :: L, x :: vs, n + 1, o', f, h => by
    rw [List.set_cons_succ, obC, obC, obC_setFs (by simpa using h)]
/-- a word is stored into a field -/
theorem OwnM.storeF {w : World} {B n gf i : Nat} {tv ov sv : Value} {m : Mo} {o : Ob} {x0 : UInt64} (h : OwnM w B 55 tv ov sv m) (hf : OwnF w B ov m.objs n gf) (ho : m.objs[n]? = some o) (hx : o.fs[i]? = some x0) (x : UInt64) :
    OwnM (w.setCell ⟨gf, i, none⟩ (.int .u64 x.toNat)) B 55 tv ov sv (putF m n i x) ∧ OwnF (w.setCell ⟨gf, i, none⟩ (.int .u64 x.toNat)) B ov (putF m n i x).objs n gf ∧ w.grownBy (w.setCell ⟨gf, i, none⟩ (.int .u64 x.toNat)) (some gf) := by
  obtain ⟨vs, nf, cf, h1, h2, h4, h5, h6⟩ := hf
  have hob : ob m n = o := by simp [ob, List.getD_eq_getElem?_getD, ho]
  have hr := h4 n _ _ h6 ho
  have hi : i < o.fs.length := (List.getElem?_eq_some_iff.1 hx).1
  have hn : nf = o.fs.length := by
    obtain ⟨g', cap, cur, hv, _⟩ := own_form hr (by omega)
    injection hv
  subst hn
  have hst := World.ownsRow.stored hr i (u64 x)
  have hg := hst.2
  have ho2 : (w.setCell ⟨gf, i, none⟩ (u64 x)).ownsRow B 140 2 ov m.objs.length (obC m.objs vs) := World.ownsRow.kept h2 hg (own_unlike h2 hr (by decide))
  have hF : OwnF (w.setCell ⟨gf, i, none⟩ (u64 x)) B ov (putF m n i x).objs n gf := by
    refine ⟨vs, _, cf, by simp [L20.putF, h1], ?_, fun j y l hy hl => ?_, h5, h6⟩
    · show World.ownsRow _ B _ 2 ov (m.objs.set n ⟨(ob m n).ty, (ob m n).fs.set i x⟩).length (obC (m.objs.set n ⟨(ob m n).ty, (ob m n).fs.set i x⟩) vs)
      rw [hob, obC_setFs ho, List.length_set]; exact ho2
    · by_cases hj : j = n
      · subst hj
        have e1 : (putF m j i x).objs[j]? = some ⟨(ob m j).ty, (ob m j).fs.set i x⟩ := by
          show (m.objs.set j _)[j]? = _
          rw [List.getElem?_set_self (List.getElem?_eq_some_iff.1 ho).1]
        rw [e1] at hl; injection hl with hl; subst hl
        rw [h6] at hy; injection hy with hy; subst hy
        refine OwnW.of hst.1 ?_
        rw [hob]; simp only [List.map_set]
      · have e1 : (putF m n i x).objs[j]? = m.objs[j]? := by
          show (m.objs.set n _)[j]? = _
          rw [List.getElem?_set_ne (Ne.symm hj)]
        rw [e1] at hl
        exact World.ownsRow.kept (h4 j y l hy hl) hg (h5 j n y _ hj hy h6)
  exact ⟨⟨OwnT.kept h.t hr hg (by decide) (by decide), hF.own, World.ownsRow.kept h.s hg (own_unlike h.s hr (by decide))⟩, hF, hg⟩
end Go.Proofs.Ytiiilaojllmmiaa
namespace Go.Proofs.Ytiiilaojllmmiaa
open Go.RowKit L02 L13 L18 L20
/-- a byte of an own table -/
theorem OwnT.at2 {w : World} {base : Nat} {v : Value} {L : List (List UInt8)} (h : OwnT w base v L) {k i : Nat} {l : List UInt8} {b : UInt8} (hl : L[k]? = some l) (hb : l[i]? = some b) :
    ∃ ad bd y, (∀ W, (Instr.indexAt 84 v (.int .i64 (k : Int))).run Try.prog W = .ok (.pointer (some ad)) W) ∧ w.cell? ad = some y ∧ (∀ W, (Instr.indexAt 68 y (.int .i64 (i : Int))).run Try.prog W = .ok (.pointer (some bd)) W) ∧ w.cell? bd = some (.int .u8 b.toNat) ∧ base ≤ ad.block ∧ base ≤ bd.block := by
  obtain ⟨vs, h1, h2, h4⟩ := h
  have hk : k < L.length := (List.getElem?_eq_some_iff.1 hl).1
  have hi : i < l.length := (List.getElem?_eq_some_iff.1 hb).1
  have hv : vs[k]? = some vs[k] := List.getElem?_eq_getElem (by omega)
  have hr := h4 k _ _ hv hl
  obtain ⟨g, c, cur, e, hg, _⟩ := own_form h2 (by omega)
  obtain ⟨g', c', cur', e', hg', _⟩ := own_form hr (by omega)
  refine ⟨cellAt v (k * 1), cellAt vs[k] (i * 1), vs[k], fun W => Rd.ixN (Rd.of_own h2) Try.underlying84 one_bytes hk W, by rw [Nat.mul_one]; exact Rd.cell (Rd.of_own h2) hv, fun W => Rd.ixN (OwnB.rd hr) Try.underlying68 one_u8 hi W, ?_, ?_, ?_⟩
  · rw [Nat.mul_one]; exact Rd.cell (OwnB.rd hr) (by rw [List.getElem?_map, hb]; rfl)
  · rw [e]; exact hg
  · rw [e']; exact hg'
end Go.Proofs.Ytiiilaojllmmiaa
namespace Go.Proofs.Ytiiilaojllmmiaa
open Go.RowKit L02 L13 L18 L20
theorem OwnM.nil (w : World) (base : Nat) : OwnM w base 55 (.slice none 0 0) (.slice none 0 0) (.slice none 0 0) .nil := ⟨OwnT.nil _ _, OwnO.nil _ _, OwnS.nil _ _ _⟩
end Go.Proofs.Ytiiilaojllmmiaa
namespace Go.Proofs.Ytiiilaojllmmiaa
open Go.RowKit L02 L13 L18 L20
end Go.Proofs.Ytiiilaojllmmiaa
namespace Go.Proofs.Ytiiilaojllmmiaa
open Go.RowKit L02 L13 L18 L20
/-- the region in which a handle is made, and a block for it: g is that block. R: what holds of the model before, behind the call; ps: blocks that stay -/
def FHandle (w : World) (R : Bool → World → Prop) (ps : List (Nat × TypeId × Array Value)) (gf i : Nat) (x : Int) (a b : Int) (z : Nat) (g : Nat) : (Nat → Bool) → World → Prop := fun φ W =>
  (R (φ 6) W ∧ z ≤ W.heap.size) ∧ Below w.heap.size w W ∧ (∀ p ∈ ps, Bx W p.1 p.2.1 p.2.2) ∧ W.cell? ⟨gf, i, none⟩ = some (.int .u64 x) ∧ (φ 11 = true → φ 10 = true) ∧ (φ 10 = true → (∀ p ∈ ps, g ≠ p.1) ∧ gf ≠ g ∧ z ≤ g) ∧ (φ 10 = true → φ 11 = false → Bx W g 24 #[.int .i64 0, .int .i64 0]) ∧ (φ 11 = true → Bx W g 24 #[.int .i64 a, .int .i64 b])
theorem FHandle.dep {w : World} {R : Bool → World → Prop} {ps : List (Nat × TypeId × Array Value)} {gf i : Nat} {x a b : Int} {z g : Nat} : Dep (FHandle w R ps gf i x a b z g) [6, 10, 11] := by
  rintro φ ψ W h ⟨h1, h2, h3, h4, h5, h6, h7, h8⟩
  have e1 := h 6 (by simp); have e2 := h 10 (by simp); have e3 := h 11 (by simp)
  rw [e1] at h1; rw [e2, e3] at h5; rw [e2] at h6; rw [e2, e3] at h7; rw [e3] at h8
  exact ⟨h1, h2, h3, h4, h5, h6, h7, h8⟩
theorem FHandle.agree {w : World} {R : Bool → World → Prop} {ps : List (Nat × TypeId × Array Value)} {gf i : Nat} {x a b : Int} {z g g' : Nat} {φ : Nat → Bool} {W : World} (h : φ 10 = true → g = g') (hF : FHandle w R ps gf i x a b z g φ W) : FHandle w R ps gf i x a b z g' φ W := by
  by_cases h10 : φ 10 = true
  · rw [← h h10]; exact hF
  · obtain ⟨h1, h2, h3, h4, h5, h6, h7, h8⟩ := hF
    exact ⟨h1, h2, h3, h4, h5, fun e => absurd e h10, fun e => absurd e h10, fun e => absurd (h5 e) h10⟩
/-- the block is made -/
theorem FHandle.alloc {w : World} {R : Bool → World → Prop} {ps : List (Nat × TypeId × Array Value)} {gf i : Nat} {x a b : Int} {z g : Nat} {φ : Nat → Bool} {W : World} (hF : FHandle w R ps gf i x a b z g φ W) (h10 : φ 10 = false) (hR : ∀ c W o, R c W → R c (W.alloc o)) :
    FHandle w R ps gf i x a b z W.heap.size (fun j => j == 10 || φ j) (W.alloc (.cells #[.int .i64 0, .int .i64 0] 24)) := by
  obtain ⟨h1, h2, h3, h4, h5, h6, h7, h8⟩ := hF
  have h11 : φ 11 = false := by
    cases e : φ 11
    · rfl
    · rw [h5 e] at h10; cases h10
  have hlt := World.block_lt_of_cell? W _ h4
  refine ⟨⟨by simpa using hR _ _ _ h1.1, by simp; omega⟩, h2.alloc h2.size _, fun p hp => (h3 p hp).alloc _, cell_later ((Below.refl _ W).alloc (Nat.le_refl _) _) h4, by simp, fun _ => ⟨fun p hp => by have := (h3 p hp).lt; omega, by simp at hlt; omega, h1.2⟩, fun _ _ => Bx.new _ _ _, by simp [h11]⟩
/-- the handle is made -/
theorem FHandle.call {w : World} {R : Bool → World → Prop} {ps : List (Nat × TypeId × Array Value)} {gf i : Nat} {x a b : Int} {z g : Nat} {φ : Nat → Bool} {W W' : World} {row : Option Nat} (hF : FHandle w R ps gf i x a b z g φ W) (hk : Keep W W' row) (hps : ∀ p ∈ ps, row ≠ some p.1) (hgf : row ≠ some gf) (hrow : ∀ k, row = some k → k < z)
    (hR : R true W') (hB : Below w.heap.size w W') : FHandle w R ps gf i x a b z g (fun j => j == 6 || φ j) W' := by
  obtain ⟨h1, h2, h3, h4, h5, h6, h7, h8⟩ := hF
  have hlt := World.block_lt_of_cell? W _ h4
  have hrg : φ 10 = true → row = none ∨ row ≠ some g := fun e => by
    rcases row with _ | k
    · exact .inl rfl
    · have h := hrow k rfl
      have h' := (h6 e).2.2
      exact .inr (fun e => by injection e with e; omega)
  refine ⟨⟨by simpa using hR, Nat.le_trans h1.2 hk.1⟩, hB, fun p hp => (h3 p hp).keep hk (.inr (hps p hp)), ?_, by simpa using h5, by simpa using h6, fun e1 e2 => ?_, fun e => ?_⟩
  · rw [World.cell?_of_block (hk.2 gf hlt (fun e => hgf e.symm))]; exact h4
  · have e1' : φ 10 = true := by simpa using e1
    exact (h7 e1' (by simpa using e2)).keep hk (hrg e1')
  · have e' : φ 11 = true := by simpa using e
    exact (h8 e').keep hk (hrg (h5 e'))
/-- the handle is stored -/
theorem FHandle.store {w : World} {R : Bool → World → Prop} {ps : List (Nat × TypeId × Array Value)} {gf i : Nat} {x a b : Int} {z g : Nat} {φ : Nat → Bool} {W : World} (hF : FHandle w R ps gf i x a b z g φ W) (hz : w.heap.size ≤ z) (h10 : φ 10 = true) (h11 : φ 11 = false)
    (hR : ∀ c W p cs u, Bx W g 24 cs → R c W → R c (W.setCell ⟨g, p, none⟩ u)) :
    (W.cell? ⟨g, 0, none⟩ = some (.int .i64 0) ∧ W.cell? ⟨g, 1, none⟩ = some (.int .i64 0) ∧ ∀ j, W.frozen? ⟨g, j, none⟩ = false) ∧ FHandle w R ps gf i x a b z g (fun j => j == 11 || φ j) ((W.setCell ⟨g, 0, none⟩ (.int .i64 a)).setCell ⟨g, 1, none⟩ (.int .i64 b)) := by
  obtain ⟨h1, h2, h3, h4, h5, h6, h7, h8⟩ := hF
  have hb := h7 h10 h11
  obtain ⟨k1, k2, k3⟩ := h6 h10
  have k4 := Nat.le_trans hz k3
  refine ⟨⟨hb.cell 0, hb.cell 1, fun j => hb.free j⟩, ⟨?_, by simpa [World.setCell] using h1.2⟩, (h2.setCell (p := ⟨g, 0, none⟩) k4 _).setCell (p := ⟨g, 1, none⟩) k4 _, fun p hp => ((h3 p hp).far (p := ⟨g, 0, none⟩) (Ne.symm (k1 p hp)) _).far (p := ⟨g, 1, none⟩) (Ne.symm (k1 p hp)) _, cell_far (cell_far h4 k2) k2, fun _ => by simpa using h10, fun _ => ⟨k1, k2, k3⟩, fun _ e => by simp at e, fun _ => ?_⟩
  · have := hR _ _ 1 _ (.int .i64 b) (hb.set (i := 0) (.int .i64 a)) (hR _ _ 0 _ (.int .i64 a) hb h1.1)
    simpa using this
  · have := (hb.set (i := 0) (.int .i64 a)).set (i := 1) (.int .i64 b)
    simpa using this
/-- two results are stored, in either order -/
def FTwoR (w : World) (B0 : Nat) (t o s : Value) (m : Mo) (p7 p4 gq : Nat) (p3 : Nat) (a b : Int) : (Nat → Bool) → World → Prop := fun f W =>
  Below w.heap.size w W ∧ OwnM W B0 55 t o s m ∧ Bx W p3 87 (if f 2 = true then #[t, o, s] else #[.slice none 0 0, .slice none 0 0, .slice none 0 0]) ∧ Bx W p7 24 (if f 3 = true then #[.int .i64 a, .int .i64 b] else #[.int .i64 0, .int .i64 0]) ∧
    Bx W p4 87 #[t, o, s] ∧ Bx W gq 24 #[.int .i64 a, .int .i64 b]
theorem FTwoR.dep {w : World} {B0 : Nat} {t o s : Value} {m : Mo} {p7 p4 gq p3 : Nat} {a b : Int} : Dep (FTwoR w B0 t o s m p7 p4 gq p3 a b) [2, 3] := by
  rintro f g W h ⟨h1, h2, h3, h4, h5, h6⟩
  have e1 := h 2 (by simp); have e2 := h 3 (by simp)
  rw [e1] at h3; rw [e2] at h4
  exact ⟨h1, h2, h3, h4, h5, h6⟩
end Go.Proofs.Ytiiilaojllmmiaa
namespace Go.Proofs.Ytiiilaojllmmiaa
open Go.RowKit L02 L13 L18 L20
end Go.Proofs.Ytiiilaojllmmiaa
namespace Go.Proofs.Ytiiilaojllmmiaa
open Go.RowKit L02 L13 L18 L20
end Go.Proofs.Ytiiilaojllmmiaa
namespace Go.Proofs.Ytiiilaojllmmiaa
open Go.RowKit L02 L13 L18 L20
end Go.Proofs.Ytiiilaojllmmiaa
namespace Go.Proofs.Ytiiilaojllmmiaa
open Go.RowKit L02 L13 L18 L20
end Go.Proofs.Ytiiilaojllmmiaa
namespace Go.Proofs.Ytiiilaojllmmiaa
open Go.RowKit L02 L13 L18 L20
end Go.Proofs.Ytiiilaojllmmiaa
namespace Go.Proofs.Ytiiilaojllmmiaa
open Go.RowKit L02 L13 L18 L20
end Go.Proofs.Ytiiilaojllmmiaa
namespace Go.Proofs.Ytiiilaojllmmiaa
open Go.RowKit L02 L13 L18 L20
set_option maxRecDepth 100000 in
set_option maxHeartbeats 8000000 in
theorem Drop20_any (tv ov sv : Value) (m : Mo) (sl g : Int) (M : Mo) (r : Int) (hM : M = dropM m sl g) (hr : r = asked m sl g) (w : World) (h : Mod w tv ov sv m) :
    Calls Try.prog 47 #[.agg #[tv, ov, sv], .agg #[.int .i64 sl, .int .i64 g]] w fun e w' => ∃ t' o' s', e = .returned (.tuple #[.agg #[t', o', s'], .int .i64 r]) ∧ Mod w' t' o' s' M ∧ Below w.heap.size w w' := by
  have B : Below w.heap.size w w := Below.refl _ _
  have H := Lib.hid h
  by_cases ha : asked m sl g = 0
  · obtain ⟨c0, hr0, k, s, n', o, t, hk, hk16, hs, hu, hg, hso, hat, hown, _⟩ := asked_ok ha
    have OT := Lib.hid (fun w h => open20_ok tv ov sv m sl g n' ha hown w h)
    obtain ⟨_, _, h16, _⟩ := chk_ok c0
    have hr1 : r = 0 := by rw [hr, ha]
    have hM1 : M = ⟨m.types, m.objs, m.slots.set k ⟨g, false, 0⟩⟩ := by rw [hM, dropM, if_pos ha, hk, Int.toNat_natCast]
    subst hk
    subst hr1; subst hM1
    have HS := Lib.hid hs; have H16 := Lib.hid h16
    clear hr hM ha c0 hr0 hu hso hat hown h hs h16
    go_enter Try.func47, Try.ntmps47
    go_upto_region 1 with (fail)
    refine wp_gen (fun Wv => Bx Wv (w.heap.size) (87) (#[tv, ov, sv]) ∧ Bx Wv (w.heap.size + 1) (24) (#[.int .i64 k, .int .i64 g]) ∧ Bx Wv (w.heap.size + 1 + 1) (87) (#[.slice none 0 0, .slice none 0 0, .slice none 0 0]) ∧ Below w.heap.size w Wv) ⟨((((Bx.at_ (by simp)).alloc _).alloc _)), (((Bx.at_ (by simp)).alloc _)), ((Bx.at_ (by simp))), ((((Below.refl _ w).alloc (by simp <;> omega) _).alloc (by simp <;> omega) _).alloc (by simp <;> omega) _)⟩ ?_
    rintro wa1 ⟨g1, g2, g3, b⟩
    replace B := B.trans (b.mono B.size); clear b
    have c_g1 := g1.cell; have f_g1 := g1.free; have a_g1 := fun o => (g1.alloc o).cell; have d_g1 := fun o o2 => ((g1.alloc o).alloc o2).cell; have e_g1 := fun o => (g1.alloc o).free
    have c_g2 := g2.cell; have f_g2 := g2.free; have a_g2 := fun o => (g2.alloc o).cell; have d_g2 := fun o o2 => ((g2.alloc o).alloc o2).cell; have e_g2 := fun o => (g2.alloc o).free
    have c_g3 := g3.cell; have f_g3 := g3.free; have a_g3 := fun o => (g3.alloc o).cell; have d_g3 := fun o o2 => ((g3.alloc o).alloc o2).cell; have e_g3 := fun o => (g3.alloc o).free
    have hz1 := B.size; have hp1 := g3.lt
    go_wp2_with fail
    refine (OT.out _ (H.out.below B)).mono ?_
    rintro e wa2 ⟨t', o', s', rfl, om, b⟩
    try clear c_g1 f_g1 a_g1 d_g1 e_g1
    replace g1 := g1.below b; have c_g1 := g1.cell; have f_g1 := g1.free; have a_g1 := fun o => (g1.alloc o).cell; have d_g1 := fun o o2 => ((g1.alloc o).alloc o2).cell; have e_g1 := fun o => (g1.alloc o).free; try clear c_g2 f_g2 a_g2 d_g2 e_g2
    replace g2 := g2.below b; have c_g2 := g2.cell; have f_g2 := g2.free; have a_g2 := fun o => (g2.alloc o).cell; have d_g2 := fun o o2 => ((g2.alloc o).alloc o2).cell; have e_g2 := fun o => (g2.alloc o).free; try clear c_g3 f_g3 a_g3 d_g3 e_g3
    replace g3 := g3.below b; have c_g3 := g3.cell; have f_g3 := g3.free; have a_g3 := fun o => (g3.alloc o).cell; have d_g3 := fun o o2 => ((g3.alloc o).alloc o2).cell; have e_g3 := fun o => (g3.alloc o).free; replace B := B.trans (b.mono B.size); clear b
    obtain ⟨⟨tA, tn, tc, rfl⟩, ⟨oA, on, oc, rfl⟩, _⟩ := om.forms
    obtain ⟨gS, sc, rfl⟩ : ∃ g c, s' = .slice (some ⟨g, 0, none⟩) 16 c := by obtain ⟨g, n, c, e, e2⟩ := om.s.form (by have := H16.out; omega); rw [e2, H16.out] at e; exact ⟨g, c, e⟩
    have hgS := om.s.lt gS rfl
    go_upto_region 2 with (fail)
    refine wp_gen (fun Wv => Bx Wv (wa2.heap.size) (87) (#[.slice tA tn tc, .slice oA on oc, .slice (some ⟨gS, 0, none⟩) 16 sc]) ∧ Below wa2.heap.size wa2 Wv) ⟨((Bx.at_ (by simp))), ((Below.refl _ wa2).alloc (by simp <;> omega) _)⟩ ?_
    rintro wa3 ⟨g4, b⟩
    try clear c_g1 f_g1 a_g1 d_g1 e_g1
    replace g1 := g1.below b; have c_g1 := g1.cell; have f_g1 := g1.free; have a_g1 := fun o => (g1.alloc o).cell; have d_g1 := fun o o2 => ((g1.alloc o).alloc o2).cell; have e_g1 := fun o => (g1.alloc o).free; try clear c_g2 f_g2 a_g2 d_g2 e_g2
    replace g2 := g2.below b; have c_g2 := g2.cell; have f_g2 := g2.free; have a_g2 := fun o => (g2.alloc o).cell; have d_g2 := fun o o2 => ((g2.alloc o).alloc o2).cell; have e_g2 := fun o => (g2.alloc o).free; try clear c_g3 f_g3 a_g3 d_g3 e_g3
    replace g3 := g3.below b; have c_g3 := g3.cell; have f_g3 := g3.free; have a_g3 := fun o => (g3.alloc o).cell; have d_g3 := fun o o2 => ((g3.alloc o).alloc o2).cell; have e_g3 := fun o => (g3.alloc o).free; replace om := om.below b; replace B := B.trans (b.mono B.size); clear b
    have c_g4 := g4.cell; have f_g4 := g4.free; have a_g4 := fun o => (g4.alloc o).cell; have d_g4 := fun o o2 => ((g4.alloc o).alloc o2).cell; have e_g4 := fun o => (g4.alloc o).free
    have HP := Lib.hid (OwnS.put3 (k := k) om.s (by have := H16.out; omega) ⟨g, false, 0⟩)
    obtain ⟨ix, p0, p1, p2⟩ := OwnS.cells om.s HS.out
    have fz := HP.out.2.2.2.2
    have hM3 := OwnM.slots om HP.out.2.1 HP.out.1
    have nx := fun {q : Nat} {tq : TypeId} {cs : Array Value} (hb : Bx wa3 q tq cs) (hne : gS ≠ q) => hb.grown HP.out.2.1 (.inr (fun e => hne (by injection e)))
    have r3 := nx g3 (by omega); have r4 := nx g4 (by omega)
    have hb3 := B.grown HP.out.2.1 B.size (fun k hk => by injection hk with hk; rw [← hk]; have := HP.out.2.2.1; omega)
    have HH := Lib.hid (And.intro hM3 (And.intro r3 (And.intro r4 hb3)))
    clear nx r3 r4 hb3 hM3
    go_upto_region 5 with (fail)
    refine wp_gen (fun Wv => OwnM Wv wa1.heap.size 55 (.slice tA tn tc) (.slice oA on oc) (.slice (some ⟨gS, 0, none⟩) 16 sc) ⟨m.types, m.objs, m.slots.set k ⟨g, false, 0⟩⟩ ∧ Bx Wv (w.heap.size + 1 + 1) 87 #[.slice none 0 0, .slice none 0 0, .slice none 0 0] ∧ Bx Wv wa2.heap.size 87 #[.slice tA tn tc, .slice oA on oc, .slice (some ⟨gS, 0, none⟩) 16 sc] ∧ Below w.heap.size w Wv) HH.out ?_
    rintro wz ⟨om2, r3, r4, B2⟩
    clear HH om g1 g2 g3 g4 B p0 p1 p2 fz ix HP c_g1 f_g1 a_g1 d_g1 e_g1 c_g2 f_g2 a_g2 d_g2 e_g2 c_g3 f_g3 a_g3 d_g3 e_g3 c_g4 f_g4 a_g4 d_g4 e_g4
    have c3 := r3.cell; have f3 := r3.free; have c4 := r4.cell
    go_wp2
    refine bodyPost_ret (v := .tuple #[.agg #[.slice tA tn tc, .slice oA on oc, .slice (some ⟨gS, 0, none⟩) 16 sc], .int .i64 0]) (by simp [results, Try.results47, go_sem, c3, f3]) rfl ?_
    refine ⟨_, _, _, rfl, (OwnM.set3 om2 r3).rd, ?_⟩
    exact ((B2.setCell (p := ⟨w.heap.size + 1 + 1, 0, none⟩) (by simp; omega) _).setCell (p := ⟨w.heap.size + 1 + 1, 1, none⟩) (by simp; omega) _).setCell (p := ⟨w.heap.size + 1 + 1, 2, none⟩) (by simp; omega) _
  · have OT := Lib.hid (fun w h => open20_no tv ov sv m sl g r hr (by rw [hr]; exact ha) w h)
    have hM1 : M = .nil := by rw [hM, dropM, if_neg ha]
    have hne : (r != 0) = true := by rw [bne_iff_ne, hr]; exact ha
    subst hM1
    clear hr hM ha h
    go_enter Try.func47, Try.ntmps47
    go_upto_region 1 with (fail)
    refine wp_gen (fun Wv => Bx Wv (w.heap.size) (87) (#[tv, ov, sv]) ∧ Bx Wv (w.heap.size + 1) (24) (#[.int .i64 sl, .int .i64 g]) ∧ Bx Wv (w.heap.size + 1 + 1) (87) (#[.slice none 0 0, .slice none 0 0, .slice none 0 0]) ∧ Below w.heap.size w Wv) ⟨((((Bx.at_ (by simp)).alloc _).alloc _)), (((Bx.at_ (by simp)).alloc _)), ((Bx.at_ (by simp))), ((((Below.refl _ w).alloc (by simp <;> omega) _).alloc (by simp <;> omega) _).alloc (by simp <;> omega) _)⟩ ?_
    rintro wa1 ⟨g1, g2, g3, b⟩
    replace B := B.trans (b.mono B.size); clear b
    have c_g1 := g1.cell; have f_g1 := g1.free; have a_g1 := fun o => (g1.alloc o).cell; have d_g1 := fun o o2 => ((g1.alloc o).alloc o2).cell; have e_g1 := fun o => (g1.alloc o).free
    have c_g2 := g2.cell; have f_g2 := g2.free; have a_g2 := fun o => (g2.alloc o).cell; have d_g2 := fun o o2 => ((g2.alloc o).alloc o2).cell; have e_g2 := fun o => (g2.alloc o).free
    have c_g3 := g3.cell; have f_g3 := g3.free; have a_g3 := fun o => (g3.alloc o).cell; have d_g3 := fun o o2 => ((g3.alloc o).alloc o2).cell; have e_g3 := fun o => (g3.alloc o).free
    go_wp2_with fail
    refine (OT.out _ (H.out.below B)).mono ?_
    rintro e wa2 ⟨rfl, b⟩
    try clear c_g1 f_g1 a_g1 d_g1 e_g1
    replace g1 := g1.below b; have c_g1 := g1.cell; have f_g1 := g1.free; have a_g1 := fun o => (g1.alloc o).cell; have d_g1 := fun o o2 => ((g1.alloc o).alloc o2).cell; have e_g1 := fun o => (g1.alloc o).free; try clear c_g2 f_g2 a_g2 d_g2 e_g2
    replace g2 := g2.below b; have c_g2 := g2.cell; have f_g2 := g2.free; have a_g2 := fun o => (g2.alloc o).cell; have d_g2 := fun o o2 => ((g2.alloc o).alloc o2).cell; have e_g2 := fun o => (g2.alloc o).free; try clear c_g3 f_g3 a_g3 d_g3 e_g3
    replace g3 := g3.below b; have c_g3 := g3.cell; have f_g3 := g3.free; have a_g3 := fun o => (g3.alloc o).cell; have d_g3 := fun o o2 => ((g3.alloc o).alloc o2).cell; have e_g3 := fun o => (g3.alloc o).free; replace B := B.trans (b.mono B.size); clear b
    go_upto_region 2 with (fail)
    refine wp_gen (fun Wv => Bx Wv (wa2.heap.size) (87) (#[.slice none 0 0, .slice none 0 0, .slice none 0 0]) ∧ Below wa2.heap.size wa2 Wv) ⟨((Bx.at_ (by simp))), ((Below.refl _ wa2).alloc (by simp <;> omega) _)⟩ ?_
    rintro wa3 ⟨g4, b⟩
    try clear c_g1 f_g1 a_g1 d_g1 e_g1
    replace g1 := g1.below b; have c_g1 := g1.cell; have f_g1 := g1.free; have a_g1 := fun o => (g1.alloc o).cell; have d_g1 := fun o o2 => ((g1.alloc o).alloc o2).cell; have e_g1 := fun o => (g1.alloc o).free; try clear c_g2 f_g2 a_g2 d_g2 e_g2
    replace g2 := g2.below b; have c_g2 := g2.cell; have f_g2 := g2.free; have a_g2 := fun o => (g2.alloc o).cell; have d_g2 := fun o o2 => ((g2.alloc o).alloc o2).cell; have e_g2 := fun o => (g2.alloc o).free; try clear c_g3 f_g3 a_g3 d_g3 e_g3
    replace g3 := g3.below b; have c_g3 := g3.cell; have f_g3 := g3.free; have a_g3 := fun o => (g3.alloc o).cell; have d_g3 := fun o o2 => ((g3.alloc o).alloc o2).cell; have e_g3 := fun o => (g3.alloc o).free; replace B := B.trans (b.mono B.size); clear b
    have c_g4 := g4.cell; have f_g4 := g4.free; have a_g4 := fun o => (g4.alloc o).cell; have d_g4 := fun o o2 => ((g4.alloc o).alloc o2).cell; have e_g4 := fun o => (g4.alloc o).free
    go_wp2
    refine bodyPost_ret (v := .tuple #[.agg #[.slice none 0 0, .slice none 0 0, .slice none 0 0], .int .i64 r]) (by simp [results, Try.results47, go_sem, c_g3, f_g3]) rfl ?_
    refine ⟨_, _, _, rfl, Mod.nil _, ?_⟩
    (repeat (first | refine Below.setCell ?_ (by first | exact Nat.le_refl _ | (simp <;> omega)) _ | refine Below.alloc ?_ (by first | exact B.size | (have := B.size; simp <;> omega)) _)); exact B
end Go.Proofs.Ytiiilaojllmmiaa
namespace Go.Proofs.Ytiiilaojllmmiaa
open Go.RowKit L02 L13 L18 L20
end Go.Proofs.Ytiiilaojllmmiaa
namespace Go.Proofs.Ytiiilaojllmmiaa
open Go.RowKit L02 L13 L18 L20
end Go.Proofs.Ytiiilaojllmmiaa
namespace Go.Proofs.Ytiiilaojllmmiaa
open Go.RowKit L02 L13 L18 L20
theorem ob_at {m : Mo} {i : Nat} {o : Ob} (h : m.objs[i]? = some o) : ob m i = o := by simp [ob, List.getD_eq_getElem?_getD, h]
theorem busy_cases (d : Int) (sl : Int) (s : Sl) (n : Nat) : ((d != sl) = false) ∨ ((d != sl) = true ∧ s.used = false) ∨ ((d != sl) = true ∧ s.used = true ∧ (s.at_ == (n : Int)) = false) ∨ ((d != sl) = true ∧ s.used = true ∧ (s.at_ == (n : Int)) = true) := by
  by_cases h : d = sl
  · exact .inl (by rw [bne_eq_false_iff_eq]; exact h)
  · have h' : (d != sl) = true := by rw [bne_iff_ne]; exact h
    cases hu : s.used
    · exact .inr (.inl ⟨h', rfl⟩)
    · by_cases ha : s.at_ = n
      · exact .inr (.inr (.inr ⟨h', rfl, by rw [beq_iff_eq]; exact ha⟩))
      · exact .inr (.inr (.inl ⟨h', rfl, by rw [beq_eq_false_iff_ne]; exact ha⟩))
end Go.Proofs.Ytiiilaojllmmiaa
