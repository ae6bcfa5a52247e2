/- Contracts of the functions that the laws 'K' reach, part 3. No condition. -/
import Derived.Test.YtodbbacmdjcheaaMKb
set_option linter.unusedVariables false
set_option linter.unusedSimpArgs false
namespace Go.Proofs.Ytodbbacmdjcheaa
open Go.RowKit
theorem grown_set (w : World) (p : Addr) (u : Value) : w.grownBy (w.setCell p u) (some p.block) :=
  ⟨rfl, rfl, rfl, by simp [World.setCell], fun k hk hne => Below.heap_setCell w p u k (fun e => hne (by rw [e]))⟩
theorem Bx.grown {w w' : World} {g : Nat} {t : TypeId} {cs : Array Value} {row : Option Nat} (h : Bx w g t cs) (hg : w.grownBy w' row) (hne : row = none ∨ row ≠ some g) : Bx w' g t cs := by
  have hl := h.lt
  unfold Bx at *
  rw [hg.block g hl (by
    rcases hne with rfl | h
    · simp
    · exact fun e => h e.symm)]
  exact h
/-- a store below the base of a row -/
theorem own_apart {w : World} {B e sz n p i : Nat} {v u : Value} {xs : List Value} (h : w.ownsRow B e sz v n xs) (hp : p < B) : (w.setCell ⟨p, i, none⟩ u).ownsRow B e sz v n xs := by
  refine World.ownsRow.kept h (grown_set w ⟨p, i, none⟩ u) ?_
  cases hv : v.ownBlock with
  | none => exact .inl rfl
  | some g => exact .inr (fun e => by injection e with e; subst e; have := (h.lt g hv).1; omega)
/-- the blocks from lo to hi are as they were -/
def Mid (lo hi : Nat) (w w' : World) : Prop := ∀ k, lo ≤ k → k < hi → w'.heap[k]? = w.heap[k]?
theorem Mid.refl (lo hi : Nat) (w : World) : Mid lo hi w w := fun _ _ _ => rfl
theorem Mid.set {lo hi : Nat} {w w' : World} (h : Mid lo hi w w') {p : Addr} (hp : p.block < lo ∨ hi ≤ p.block) (u : Value) : Mid lo hi w (w'.setCell p u) := fun k h1 h2 =>
  (Below.heap_setCell w' p u k (by omega)).trans (h k h1 h2)
theorem Mid.grown {lo hi : Nat} {w w' w'' : World} {row : Option Nat} (h : Mid lo hi w w') (hs : hi ≤ w'.heap.size) (hg : w'.grownBy w'' row) (hr : ∀ k, row = some k → k < lo ∨ hi ≤ k) : Mid lo hi w w'' := fun k h1 h2 =>
  (hg.block k (by omega) (fun e => by have := hr k e.symm; omega)).trans (h k h1 h2)
theorem Mid.below {lo hi : Nat} {w w' w'' : World} (h : Mid lo hi w w') (hs : hi ≤ w'.heap.size) (hb : Below w'.heap.size w' w'') : Mid lo hi w w'' := fun k h1 h2 =>
  (hb.block k (by omega)).trans (h k h1 h2)
theorem own_mid {lo e sz n : Nat} {w w' : World} {v : Value} {xs : List Value} (h : w.ownsRow lo e sz v n xs) (hm : Mid lo w.heap.size w w') : w'.ownsRow lo e sz v n xs := by
  refine ⟨h.1, h.2.imp id ?_⟩
  rintro ⟨g, cap, cur, h1, h2, h3, h4⟩
  exact ⟨g, cap, cur, h1, h2, (hm g h2 (Array.getElem?_eq_some_iff.1 h3).1).trans h3, h4⟩
end Go.Proofs.Ytodbbacmdjcheaa
namespace Go.Proofs.Ytodbbacmdjcheaa
open Go.RowKit L02 L05 L06 L19
theorem putW_cut : ∀ (m l : List UInt64) (a : Nat), a + m.length ≤ l.length → putW l a m = l.take a ++ (m ++ l.drop (a + m.length))
  | [], l, a, h => by simp [putW]
  | x :: xs, l, a, h => by
    rw [List.length_cons] at h
    rw [putW, putW_cut xs _ _ (by rw [List.length_set]; omega), List.length_cons]
    rw [List.take_succ_eq_append_getElem (by rw [List.length_set]; omega), List.getElem_set_self, List.take_set_of_le (Nat.le_refl a), List.drop_set_of_lt (by omega), List.append_assoc, List.singleton_append, List.cons_append, show a + 1 + xs.length = a + (xs.length + 1) by omega]
theorem spl_put {l m : List UInt64} {a : Nat} (h : a + m.length ≤ l.length) : splice (l.map u64) a (m.map u64) = (putW l a m).map u64 := by
  rw [putW_cut _ _ _ h]
  unfold splice
  rw [List.map_append, List.map_append, List.map_take, List.map_drop, List.length_map]
set_option maxRecDepth 100000 in
set_option maxHeartbeats 2000000 in
theorem put_any (v sv : Value) (l m : List UInt64) (a B : Nat) (hm : a + m.length ≤ l.length) (w : World) (o : OwnW w B 64 v l) (hs : Rd w 1 sv m.length (m.map u64)) (hB : B ≤ w.heap.size) :
    Calls Try.prog 28 #[v, .int .i64 a, sv] w fun e w' => (∃ u, e = .returned u) ∧ OwnW w' B 64 v (putW l a m) ∧ Below B w w' ∧ w.grownBy w' v.ownBlock := by
  obtain ⟨dv, sl, cut⟩ := own_cutFrom (P := Try.prog) o Try.underlying25 one_u64 (lo := (a : Int)) (by omega) (by omega)
  have sl' : ∀ W, (Instr.sliceAt 25 v (some (.int .i64 a)) none none).run Try.prog W = .ok dv W := sl
  obtain ⟨w', hrun, h2, h3⟩ := run_copy_own (P := Try.prog) (sT := 25) (ty := 3) Try.underlying25 one_u64 o cut hs (one_u64s _)
  clear sl
  have hrun' := Lib.hid hrun; have H2 := Lib.hid h2; have H3 := Lib.hid h3; have HM := Lib.hid hm
  have BB := Lib.hid ((Below.refl B w).grown h3 hB fun k hk => (o.lt k hk).1)
  clear hrun h2 h3 hm o hs cut hB
  go_enter Try.func28, Try.ntmps28
  go_wp2_with fail
  rw [hrun'.out, Result.andThen_ok]
  go_wp2
  refine bodyPost_end (results_none rfl _ _ _) rfl ⟨⟨_, rfl⟩, OwnW.of H2.out ?_, BB.out, H3.out⟩
  have := HM.out
  rw [List.take_of_length_le (by rw [List.length_map]; simp; omega), Int.toNat_natCast, spl_put (by omega)]
end Go.Proofs.Ytodbbacmdjcheaa
namespace Go.Proofs.Ytodbbacmdjcheaa.RF
open Go.RowKit
/-- what the body of a round must leave -/
def rdE (B : Nat) (X : World) (J : World → Prop) : Exit → Act → World → Prop
  | .normal, _, W => KeepsFrom B X W ∧ J W
  | _, _, _ => False
theorem keeps_below {B : Nat} {X Y : World} (h : Below X.heap.size X Y) : KeepsFrom B X Y :=
  ⟨h.size, fun k o _ hk _ => (h.block k (Array.getElem?_eq_some_iff.1 hk).1).trans hk⟩
theorem keeps_set {B : Nat} (X : World) (a : Addr) (u : Value) : KeepsFrom B X (X.setCell a u) := (KeepsOthers.setCell _ _ _).from _
theorem put_below {X : World} {n l : Nat} (o : Obj) (h : n ≤ l) : Below n X (X.putObj l o) :=
  ⟨rfl, rfl, rfl, by simp, fun k hk => World.putObj_heap_other (by omega)⟩
theorem wpIn_rangeE {P : Program} {m : Nat} {g : Operand} {ps : Array Tmp} {assign body : Code} {Q : Exit → Act → World → Prop} {a : Act} {w : World}
    {gf : Nat} {lb : Array Value} (hg : a.eval g = .func (.func gf) #[] lb) (eg : ∀ args w, (callFunc gf args).run P w = .ok (.enter gf args) w)
    (J : Nat → World → Prop) (hJ : ∀ k A B, J k A → Below w.heap.size A B → J k B) (h0 : J 0 w) (N : Nat)
    (encs : Nat → Array Value) (hps : ∀ k, (encs k).size = ps.size) (R : Nat → World → World → Prop)
    (hR : ∀ k A B, J k A → R k A B → KeepsFrom w.heap.size A B)
    (hcall : ∀ (l : Nat) (J' : Nat → World → Prop) (W : World), (∀ k A, J' k A → J k A) → (∀ k A B, J' k A → Below A.heap.size A B → J' k B) →
      (∀ k A, J' k A → k < N → YieldAt Fence.wide (m - 1 - 1) P l (encs k) A fun e W' => e = .returned (.bool true) ∧ J' (k + 1) W') → J' 0 W →
      CallsIn Fence.wide (m - 1) P gf (#[.func (.yield l) #[] #[]] ++ lb) W fun e W' => (∃ v, e = .returned v) ∧ ∃ k A, J' k A ∧ R k A W')
    (hround : ∀ (l k : Nat) (A : World), w.heap.size < l → l < A.heap.size → J k A → k < N →
      assign.wpIn (Fence.wide.inRound l) (m - 1 - 1) P (Exit.then (fun a₁ W₁ => KeepsFrom w.heap.size A W₁ ∧
          ∀ r, body.wpIn (Fence.wide.inRound l) (m - 1 - 1) P (rdE w.heap.size (W₁.putObj l (.loop r)) (J (k + 1))) a₁ (W₁.putObj l (.loop r))) (fun _ _ _ => False))
        { tmps := (ps.zip (encs k)).foldl (fun t (p, v) => t.setIfInBounds p v) a.tmps, defers := [] } A)
    (hdone : ∀ (k : Nat) (A B : World) (r : Loop), J k A → R k A B → w.heap.size + 1 < A.heap.size → B.heap[w.heap.size]? = some (.deferred (some [])) →
      Q .normal { a with defers := { target := .collected w.heap.size, args := #[] } :: a.defers } (B.putObj (w.heap.size + 1) (.loop r))) :
    (Code.rangeFunc g ps assign body).wpIn Fence.wide m P Q a w := by
  refine wpIn_rangeFunc ?_
  intro fn hfn
  rw [show Fence.wide.round = none from rfl]
  obtain ⟨rec, hrec⟩ : ∃ rec : LoopState → Option Code → Loop, rec = fun st pe => { state := st, pending := pe, fn, tmps := a.tmps, params := ps, assign, body, defers := w.heap.size } := ⟨_, rfl⟩
  obtain ⟨W1, hW1⟩ : ∃ W1, (w.alloc (.deferred (some []))).alloc (.loop (rec .ready none)) = W1 := ⟨_, rfl⟩
  have hL1 : W1.heap[w.heap.size + 1]? = some (.loop (rec .ready none)) := by
    rw [← hW1]; have := World.alloc_heap_new (w.alloc (.deferred (some []))) (.loop (rec .ready none)); rwa [World.size_alloc] at this
  have hK1 : W1.heap[w.heap.size]? = some (.deferred (some [])) := by
    rw [← hW1]; exact (Below.heap_alloc _ _ _ (by simp)).trans (World.alloc_heap_new w _)
  have hb1 : Below w.heap.size w W1 := by
    rw [← hW1]; exact ((Below.refl _ w).alloc (Nat.le_refl _) _).alloc (by simp) _
  refine ⟨w.heap.size + 1, [{ target := .collected w.heap.size, args := #[] }], W1, { target := .fn (.func gf) lb, args := #[.func (.yield (w.heap.size + 1)) #[] #[]] }, W1, gf,
    #[.func (.yield (w.heap.size + 1)) #[] #[]] ++ lb, W1, ?_, ?_, ?_, ?_, fun h => by simp [Fence.wide] at h, ?_⟩
  · rw [← hW1, hrec]; exact run_enterLoop_outer _ _ _ _ _
  · simp only [resolve, hg]
    simp [go_sem]
  · intro f' hf'; exact trivial
  · simp [invoke, go_sem, eg]
  · refine (hcall (w.heap.size + 1)
      (fun k W => J k W ∧ W.heap[w.heap.size + 1]? = some (.loop (rec .ready none)) ∧ W.heap[w.heap.size]? = some (.deferred (some []))) W1
      (fun k A h => h.1) ?_ ?_ ⟨hJ 0 w W1 h0 hb1, hL1, hK1⟩).mono ?_
    · rintro k A B ⟨hj, hl, hk⟩ hb
      have hlt := (Array.getElem?_eq_some_iff.1 hl).1
      exact ⟨hJ k A B hj (hb.mono (by omega)), (hb.block _ hlt).trans hl, (hb.block _ (by omega)).trans hk⟩
    · rintro k A ⟨hj, hl, hk⟩ hkN
      have hlt := (Array.getElem?_eq_some_iff.1 hl).1
      have hy := run_yield (P := P) (args := encs k) hl (by rw [hrec]; exact hps k)
      rw [hrec] at hy
      refine ⟨fn, _, assign, body, hy, roundIn_of_wpIn hfn (wpIn_mono (hround (w.heap.size + 1) k A (by omega) hlt hj hkN) ?_)⟩
      clear hy
      rintro e a₁ Wa hp
      cases e with
      | normal =>
        obtain ⟨hkf, hbody⟩ := hp
        have hl' := hkf.same _ _ (by omega) hl rfl
        have hk' := hkf.same _ _ (Nat.le_refl _) hk rfl
        have hlt' : w.heap.size + 1 < Wa.heap.size := (Array.getElem?_eq_some_iff.1 hl').1
        refine ⟨_, run_beginRound hl' (by rw [hrec]), ?_⟩
        have hl2 : (Wa.putObj (w.heap.size + 1) (.loop { rec .ready none with state := .busy })).heap[w.heap.size + 1]? = some (.loop { rec .ready none with state := .busy }) := World.putObj_heap_same hlt'
        have hk2 : (Wa.putObj (w.heap.size + 1) (.loop { rec .ready none with state := .busy })).heap[w.heap.size]? = some (.deferred (some [])) := (World.putObj_heap_other (by omega)).trans hk'
        refine wpIn_mono (hbody _) ?_
        rintro e a3 W3 hp
        cases e with
        | normal =>
          obtain ⟨hk3, hj3⟩ := hp
          have hl3 := hk3.same _ _ (by omega) hl2 rfl
          have hr := run_endRound (P := P) none hl3
          refine ⟨_, _, hr, rfl, hJ _ _ _ hj3 (put_below _ (by omega)), ?_, ?_⟩
          · rw [World.putObj_heap_same (Array.getElem?_eq_some_iff.1 hl3).1, hrec]; rfl
          · exact (World.putObj_heap_other (by omega)).trans (hk3.same _ _ (Nat.le_refl _) hk2 rfl)
        | _ => exact hp.elim
      | _ => exact hp.elim
    · rintro e W2 ⟨⟨v, rfl⟩, k, A, ⟨hj, hl, hk⟩, hr⟩
      have hkf := hR k A W2 hj hr
      have hl' := hkf.same _ _ (by omega) hl rfl
      have := run_endLoop (P := P) hl' (by rw [hrec]; simp)
      rw [hrec] at this
      exact ⟨none, _, this, hdone k A W2 _ hj hr (Array.getElem?_eq_some_iff.1 hl).1 (hkf.same _ _ (Nat.le_refl _) hk rfl)⟩
end Go.Proofs.Ytodbbacmdjcheaa.RF
namespace Go.Proofs.Ytodbbacmdjcheaa
open Go.RowKit
def u8 (x : UInt8) : Value := .int .u8 x.toNat
def Byts (w : World) (v : Value) (l : List UInt8) : Prop := Rd w 1 v l.length (l.map u8)
def OwnB (w : World) (base E : Nat) (v : Value) (l : List UInt8) : Prop := w.ownsRow base E 1 v l.length (l.map u8)
theorem one_u8 : (Try.prog.info? 5).map (·.size) = some 1 := by kernel_rfl
theorem info_u8 : (Try.prog.info? 5).map (fun i => (i.zero, i.size, i.bytes)) = some (some (.int .u8 0), 1, 1) := by kernel_rfl
theorem one_u8s (l : List UInt8) : ∀ u ∈ l.map u8, u.oneCell' = true := by
  intro u hu; obtain ⟨x, _, rfl⟩ := List.mem_map.1 hu; rfl
section
variable {P : Program} {w w' : World} {v : Value} {l : List UInt8} {base E : Nat}
theorem OwnB.rd (h : OwnB w base E v l) : Byts w v l := Rd.of_own h
theorem Byts.below (h : Byts w v l) (hb : Below w.heap.size w w') : Byts w' v l := Rd.below h hb
theorem Byts.alloc (h : Byts w v l) (o : Obj) : Byts (w.alloc o) v l := Rd.alloc h o
theorem OwnB.below (h : OwnB w base E v l) (hb : Below w.heap.size w w') : OwnB w' base E v l := own_below h hb
theorem OwnB.nil (w : World) (base E : Nat) : OwnB w base E (.slice none 0 0) [] := World.ownsRow_nil w base E 1
theorem Byts.nil (w : World) : Byts w (.slice none 0 0) [] := Rd.nil w 1
theorem OwnB.of {n : Nat} {xs : List Value} (h : w.ownsRow base E 1 v n xs) (hx : xs = l.map u8) : OwnB w base E v l := by
  subst hx
  have hn : n = l.length := by have := h.1; simp at this; omega
  subst hn; exact h
theorem Byts.at_ {t e : TypeId} (h : Byts w v l) (ht : P.underlying t = some (.slice e)) (hi : (P.info? e).map (·.size) = some 1) {k : Nat} (hk : k < l.length) :
    ∃ ad x, (∀ W, (Instr.indexAt t v (.int .i64 (k : Int))).run P W = .ok (.pointer (some ad)) W) ∧ w.cell? ad = some (.int .u8 (UInt8.toNat x)) ∧ Hid (l[k]? = some x) :=
  ⟨_, l[k], fun W => Rd.ixN h ht hi hk W, by rw [Nat.mul_one]; exact Rd.cell h (by simp [hk]; rfl), by unfold Hid; simp [hk]⟩
theorem Byts.str {src dst e : TypeId} (h : Byts w v l) (hs : P.underlying src = some (.slice e)) (he : P.underlying e = some (.int .u8)) (hd : P.underlying dst = some .string) :
    (convert src dst v).run P w = .ok (.string ⟨l.toArray⟩) w := by
  rcases Nat.eq_zero_or_pos l.length with h0 | h0
  · obtain ⟨A, c, rfl, h1, h2, h3, h4, h5⟩ := h
    have hl : l = [] := List.eq_nil_of_length_eq_zero h0
    subst hl
    cases A with
    | none => exact run_convert_bytes_nil w src e hs he _ _ dst hd
    | some ad =>
      rw [run_convert_bytes_string w src dst e _ _ c hs he hd]
      have := run_bytesToString (P := P) w ad 0 c [] (by
        have := run_loadCells_list (P := P) w ad [] (fun j v hj => by simp at hj)
        simpa using this)
      simp only [List.foldl_nil] at this
      exact this
  · obtain ⟨b, o, c, rfl, hb, hc, hcell⟩ := Rd.form h h0
    have := run_convert_bytes_arg (P := P) w src e hs he b o l.length c (l.map fun x => (x.toNat : Int)) (by simp) (fun i hi => by
      rw [hcell i (.int .u8 (l[i].toNat : Int)) (by simp [hi]; rfl)]
      simp [List.getD_eq_getElem?_getD, hi]) dst hd
    rw [this]
    unfold strOfNums
    rw [List.map_map]
    congr 3
    have : ((fun n : Int => UInt8.ofNat n.toNat) ∘ fun x : UInt8 => (x.toNat : Int)) = id := by
      funext x; simp
    rw [this, List.map_id]
end
end Go.Proofs.Ytodbbacmdjcheaa
namespace Go.Proofs.Ytodbbacmdjcheaa
open Go.RowKit
theorem wrap_u64 (n : Int) : IntKind.u64.wrap n = n % 18446744073709551616 := by
  simp [IntKind.wrap, IntKind.signed, IntKind.bits]
theorem wrap_u8 (n : Int) : IntKind.u8.wrap n = n % 256 := by
  simp [IntKind.wrap, IntKind.signed, IntKind.bits]
theorem toNat_lt (a : UInt64) : a.toNat < 18446744073709551616 := a.toNat_lt
theorem ofInt8 (a : Nat) (h : a < 256) : (BitVec.ofInt 8 (a : Int)).toNat = a := by
  rw [BitVec.ofInt_natCast, BitVec.toNat_ofNat]; exact Nat.mod_eq_of_lt h
theorem bits_xor_u8 {a b : Nat} (ha : a < 256) (hb : b < 256) : bits .xor .u8 (a : Int) (b : Int) = ((a ^^^ b : Nat) : Int) := by
  show IntKind.u8.wrap ((BitVec.ofInt 8 (a : Int) ^^^ BitVec.ofInt 8 (b : Int)).toNat : Int) = _
  rw [BitVec.toNat_xor, ofInt8 a ha, ofInt8 b hb, wrap_u8]
  have : a ^^^ b < 2 ^ 8 := Nat.xor_lt_two_pow (by omega) (by omega)
  omega
theorem bits_xor_u64n {a b : Nat} (ha : a < 18446744073709551616) (hb : b < 18446744073709551616) : bits .xor .u64 (a : Int) (b : Int) = ((a ^^^ b : Nat) : Int) := by
  show IntKind.u64.wrap ((BitVec.ofInt 64 (a : Int) ^^^ BitVec.ofInt 64 (b : Int)).toNat : Int) = _
  rw [BitVec.toNat_xor, BitVec.ofInt_natCast, BitVec.ofInt_natCast, BitVec.toNat_ofNat, BitVec.toNat_ofNat, Nat.mod_eq_of_lt ha, Nat.mod_eq_of_lt hb, wrap_u64]
  have : a ^^^ b < 2 ^ 64 := Nat.xor_lt_two_pow (by omega) (by omega)
  omega
/-- the low byte apart -/
theorem xor_low (s b : Nat) (hb : b < 256) : s ^^^ b = s - s % 256 + ((s % 256) ^^^ b) := by
  have h1 : (s ^^^ b) % 2 ^ 8 = (s % 2 ^ 8) ^^^ (b % 2 ^ 8) := Nat.xor_mod_two_pow
  have h2 : (s ^^^ b) / 2 ^ 8 = (s / 2 ^ 8) ^^^ (b / 2 ^ 8) := Nat.xor_div_two_pow
  rw [Nat.mod_eq_of_lt (show b < 2 ^ 8 by omega)] at h1
  rw [Nat.div_eq_of_lt (show b < 2 ^ 8 by omega), Nat.xor_zero] at h2
  simp only [show (2 : Nat) ^ 8 = 256 from rfl] at h1 h2
  omega
theorem bits_or_u64n {a b : Nat} (ha : a < 18446744073709551616) (hb : b < 18446744073709551616) : bits .or .u64 (a : Int) (b : Int) = ((a ||| b : Nat) : Int) := by
  show IntKind.u64.wrap ((BitVec.ofInt 64 (a : Int) ||| BitVec.ofInt 64 (b : Int)).toNat : Int) = _
  rw [BitVec.toNat_or, BitVec.ofInt_natCast, BitVec.ofInt_natCast, BitVec.toNat_ofNat, BitVec.toNat_ofNat, Nat.mod_eq_of_lt ha, Nat.mod_eq_of_lt hb, wrap_u64]
  have : a ||| b < 2 ^ 64 := Nat.or_lt_two_pow (by omega) (by omega)
  omega
theorem bits_and_u64n {a b : Nat} (ha : a < 18446744073709551616) (hb : b < 18446744073709551616) : bits .and .u64 (a : Int) (b : Int) = ((a &&& b : Nat) : Int) := by
  show IntKind.u64.wrap ((BitVec.ofInt 64 (a : Int) &&& BitVec.ofInt 64 (b : Int)).toNat : Int) = _
  rw [BitVec.toNat_and, BitVec.ofInt_natCast, BitVec.ofInt_natCast, BitVec.toNat_ofNat, BitVec.toNat_ofNat, Nat.mod_eq_of_lt ha, Nat.mod_eq_of_lt hb, wrap_u64]
  have : a &&& b < 2 ^ 64 := Nat.and_lt_two_pow _ (by omega)
  omega
/-- 'or' of parts that lie apart is their sum; 'and' with a mask is a remainder. -/
theorem or_int {a b : Int} (k : Nat) (c : Nat) (h0 : 0 ≤ a) (ha : a < ((2 ^ k : Nat) : Int)) (hb : b = ((2 ^ k * c : Nat) : Int)) (hk : a < 18446744073709551616) (hl : b < 18446744073709551616) : bits .or .u64 a b = a + b := by
  obtain ⟨n, rfl⟩ := Int.eq_ofNat_of_zero_le h0
  subst hb
  have hn : n < 2 ^ k := by exact_mod_cast ha
  rw [bits_or_u64n (by omega) (by omega), Nat.or_comm, ← Nat.two_pow_add_eq_or_of_lt hn]
  omega
theorem and_int {a : Int} (k : Nat) (h0 : 0 ≤ a) (ha : a < 18446744073709551616) (m : Int) (hm : m = ((2 ^ k - 1 : Nat) : Int)) (hl : m < 18446744073709551616) : bits .and .u64 a m = a % ((2 ^ k : Nat) : Int) := by
  obtain ⟨n, rfl⟩ := Int.eq_ofNat_of_zero_le h0
  subst hm
  rw [bits_and_u64n (by omega) (by omega), Nat.and_two_pow_sub_one_eq_mod]
  exact Int.natCast_emod n (2 ^ k)
end Go.Proofs.Ytodbbacmdjcheaa
namespace Go.Proofs.Ytodbbacmdjcheaa
open Go.RowKit L05
/-- The eight bytes of a word, as an array. -/
def bytesV (x : UInt64) : Array Value := #[.int .u8 (x.toNat % 256), .int .u8 (x.toNat / 256 % 256), .int .u8 (x.toNat / 65536 % 256), .int .u8 (x.toNat / 16777216 % 256), .int .u8 (x.toNat / 4294967296 % 256),
  .int .u8 (x.toNat / 1099511627776 % 256), .int .u8 (x.toNat / 281474976710656 % 256), .int .u8 (x.toNat / 72057594037927936)]
set_option maxHeartbeats 1000000 in
theorem Bytes_any (x : UInt64) (w : World) : Calls Try.prog 100 #[.int .u64 x.toNat] w fun e w' => e = .returned (.agg (bytesV x)) ∧ Below w.heap.size w w' := by
  have hx := toNat_lt x
  go_enter Try.func100, Try.ntmps100
  go_wp2
  refine wp_loop_rounds 9 ?_
  iterate 9 (rw [rounds_succ]; go_wp2)
  refine bodyPost_ret (v := .agg (bytesV x)) ?_ rfl ⟨rfl, ?_⟩
  · simp [results, Try.results100, go_sem, bytesV]
  · exact (((Below.refl _ _).alloc (Nat.le_refl _) _).alloc (by simp) _)
set_option maxHeartbeats 1000000 in
theorem BytesR_any (x : UInt64) (w : World) : Calls Try.prog 106 #[.int .u64 x.toNat] w fun e w' => e = .returned (.agg (bytesV x)) ∧ Below w.heap.size w w' := by
  have hx := toNat_lt x
  go_enter Try.func106, Try.ntmps106
  go_wp2
  refine wp_loop_rounds 9 ?_
  iterate 9 (rw [rounds_succ]; go_wp2)
  refine bodyPost_ret (v := .agg (bytesV x)) ?_ rfl ⟨rfl, ?_⟩
  · simp [results, Try.results106, go_sem, bytesV]
    try omega
  · exact (((Below.refl _ _).alloc (Nat.le_refl _) _).alloc (by simp) _)
theorem bytesV_ix0 (x : UInt64) (W : World) : (Instr.index 181 (.agg (bytesV x)) (.int .i64 ((0 : Nat) : Int))).run Try.prog W = .ok (.int .u8 ((x.toNat : Int) % 256)) W := by kernel_rfl
theorem bytesV_ix1 (x : UInt64) (W : World) : (Instr.index 181 (.agg (bytesV x)) (.int .i64 ((1 : Nat) : Int))).run Try.prog W = .ok (.int .u8 ((x.toNat : Int) / 256 % 256)) W := by kernel_rfl
theorem bytesV_ix2 (x : UInt64) (W : World) : (Instr.index 181 (.agg (bytesV x)) (.int .i64 ((2 : Nat) : Int))).run Try.prog W = .ok (.int .u8 ((x.toNat : Int) / 65536 % 256)) W := by kernel_rfl
theorem bytesV_ix3 (x : UInt64) (W : World) : (Instr.index 181 (.agg (bytesV x)) (.int .i64 ((3 : Nat) : Int))).run Try.prog W = .ok (.int .u8 ((x.toNat : Int) / 16777216 % 256)) W := by kernel_rfl
theorem bytesV_ix4 (x : UInt64) (W : World) : (Instr.index 181 (.agg (bytesV x)) (.int .i64 ((4 : Nat) : Int))).run Try.prog W = .ok (.int .u8 ((x.toNat : Int) / 4294967296 % 256)) W := by kernel_rfl
theorem bytesV_ix5 (x : UInt64) (W : World) : (Instr.index 181 (.agg (bytesV x)) (.int .i64 ((5 : Nat) : Int))).run Try.prog W = .ok (.int .u8 ((x.toNat : Int) / 1099511627776 % 256)) W := by kernel_rfl
theorem bytesV_ix6 (x : UInt64) (W : World) : (Instr.index 181 (.agg (bytesV x)) (.int .i64 ((6 : Nat) : Int))).run Try.prog W = .ok (.int .u8 ((x.toNat : Int) / 281474976710656 % 256)) W := by kernel_rfl
theorem bytesV_ix7 (x : UInt64) (W : World) : (Instr.index 181 (.agg (bytesV x)) (.int .i64 ((7 : Nat) : Int))).run Try.prog W = .ok (.int .u8 ((x.toNat : Int) / 72057594037927936)) W := by kernel_rfl
theorem bytesV_ix (x : UInt64) {k : Nat} (hk : k < 8) (W : World) : (Instr.index 181 (.agg (bytesV x)) (.int .i64 (k : Int))).run Try.prog W = .ok (.int .u8 ((byteAt x k).toNat : Int)) W := by
  rw [byteAt_nat]
  have hx := toNat_lt x
  match k, hk with
  | 0, _ => rw [bytesV_ix0]; exact congrArg (fun n => Result.ok (Value.int .u8 n) W) (by simp only [show (256 : Nat) ^ 0 = 1 from rfl]; omega)
  | 1, _ => rw [bytesV_ix1]; exact congrArg (fun n => Result.ok (Value.int .u8 n) W) (by simp only [show (256 : Nat) ^ 1 = 256 from rfl]; omega)
  | 2, _ => rw [bytesV_ix2]; exact congrArg (fun n => Result.ok (Value.int .u8 n) W) (by simp only [show (256 : Nat) ^ 2 = 65536 from rfl]; omega)
  | 3, _ => rw [bytesV_ix3]; exact congrArg (fun n => Result.ok (Value.int .u8 n) W) (by simp only [show (256 : Nat) ^ 3 = 16777216 from rfl]; omega)
  | 4, _ => rw [bytesV_ix4]; exact congrArg (fun n => Result.ok (Value.int .u8 n) W) (by simp only [show (256 : Nat) ^ 4 = 4294967296 from rfl]; omega)
  | 5, _ => rw [bytesV_ix5]; exact congrArg (fun n => Result.ok (Value.int .u8 n) W) (by simp only [show (256 : Nat) ^ 5 = 1099511627776 from rfl]; omega)
  | 6, _ => rw [bytesV_ix6]; exact congrArg (fun n => Result.ok (Value.int .u8 n) W) (by simp only [show (256 : Nat) ^ 6 = 281474976710656 from rfl]; omega)
  | 7, _ => rw [bytesV_ix7]; exact congrArg (fun n => Result.ok (Value.int .u8 n) W) (by simp only [show (256 : Nat) ^ 7 = 72057594037927936 from rfl]; omega)
theorem bytesV_eq (x : UInt64) : bytesV x = #[.int .u8 (byteAt x 0).toNat, .int .u8 (byteAt x 1).toNat, .int .u8 (byteAt x 2).toNat, .int .u8 (byteAt x 3).toNat, .int .u8 (byteAt x 4).toNat, .int .u8 (byteAt x 5).toNat, .int .u8 (byteAt x 6).toNat, .int .u8 (byteAt x 7).toNat] := by
  have hx := toNat_lt x
  simp [byteAt_nat, bytesV]
  omega
theorem fnv_walk (s : UInt64) (q : UInt8) : IntKind.u64.wrap (bits .xor .u64 (s.toNat : Int) (IntKind.u64.wrap (q.toNat : Int)) * 1099511628211) = ((fnv s q).toNat : Int) := by
  have hq := q.toNat_lt
  rw [wrap_u64 (q.toNat : Int), show (q.toNat : Int) % 18446744073709551616 = (q.toNat : Int) by omega, bits_xor_u64n (toNat_lt s) (by omega), wrap_u64, fnv_nat]
  omega
set_option maxHeartbeats 1000000 in
theorem Next_any (s : UInt64) (v : Value) (l : List UInt64) (w : World) (h : Words w v l) (hl : l.length ≤ 2048) :
    Calls Try.prog 89 #[.int .u64 s.toNat, v] w fun e w' => e = .returned (.tuple #[.int .u64 (behind s l).toNat, .int .i64 0]) ∧ Below w.heap.size w w' := by
  have l1 := Rd.len h Try.underlying25
  obtain ⟨N, hN⟩ : ∃ N, N = l.length := ⟨_, rfl⟩
  rw [← hN] at l1 hl
  have HN := Lib.hid hN; have H := Lib.hid h; have B : Below w.heap.size w w := Below.refl _ _
  clear hN h
  go_enter Try.func89, Try.ntmps89
  go_wp2
  go_loopw [0, 15] (fun st i wr => ∃ k : Nat, k ≤ N ∧ i = .int .i64 k ∧ st = .int .u64 (behind s (l.take k)).toNat ∧ Below w.heap.size w wr) (fun _ i _ => N - (intOf i).toNat)
  case atStart => exact ⟨0, Nat.zero_le _, rfl, rfl, B⟩
  case round =>
    obtain ⟨k, hk, rfl, rfl, hbel⟩ := hrel
    by_cases hlt : k < N
    · obtain ⟨ad, x, ia, ca, hx⟩ := (H.out.below hbel).at_ Try.underlying25 one_u64 (k := k) (by have := HN.out; omega)
      have HB := Lib.hid hbel; clear hbel
      go_wp2_with fail
      refine (Bytes_any _ _).mono ?_
      rintro e w2 ⟨rfl, b⟩
      have B2 := HB.out.trans (b.mono HB.out.size)
      have HB2 := Lib.hid B2; clear b B2
      obtain ⟨s0, hs0⟩ : ∃ s0, s0 = behind s (l.take k) := ⟨_, rfl⟩
      rw [← hs0]
      have HS := Lib.hid hs0; clear hs0
      obtain ⟨V, hV⟩ : ∃ V, V = bytesV x := ⟨_, rfl⟩
      rw [← hV]
      have HV := Lib.hid hV; clear hV
      go_wp2
      go_loop [0, 21] (fun st j => ∃ m : Nat, m ≤ 8 ∧ j = .int .i64 m ∧ st = .int .u64 (wordTo s0 x m).toNat) (fun _ j => 8 - (intOf j).toNat)
      case atStart => exact ⟨0, by omega, rfl, rfl⟩
      case round =>
        obtain ⟨m, hm, rfl, rfl⟩ := hrel
        by_cases hm8 : m < 8
        · have hix := bytesV_ix x hm8
          rw [← HV.out] at hix
          obtain ⟨q, hq⟩ : ∃ q, q = byteAt x m := ⟨_, rfl⟩
          rw [← hq] at hix
          obtain ⟨s1, hs1⟩ : ∃ s1, s1 = wordTo s0 x m := ⟨_, rfl⟩
          rw [← hs1]
          have hstep : wordTo s0 x (m + 1) = fnv s1 q := by rw [wordTo, hs1, hq]
          have HST := Lib.hid hstep; clear hstep hs1 hq
          go_wp2
          go_roundw
          case rel => exact ⟨m + 1, by omega, by go_num, by rw [HST.out, fnv_walk]⟩
          case measure => simp [intOf]; omega
        · obtain rfl : m = 8 := by omega
          go_wp2
          go_roundw
          case rel => exact ⟨k + 1, by omega, by go_num, by rw [behind_take hx.out, ← HS.out]; rfl, HB2.out⟩
          case measure => simp [intOf]; omega
    · obtain rfl : k = N := by omega
      have HB := Lib.hid hbel; clear hbel
      go_wp2
      go_ret2
      refine ⟨by rw [HN.out, List.take_length]; rfl, HB.out⟩
theorem Of_any (v : Value) (l : List UInt64) (w : World) (h : Words w v l) (hl : l.length ≤ 2048) :
    Calls Try.prog 67 #[v] w fun e w' => e = .returned (.tuple #[.int .u64 (sum l).toNat, .int .i64 0]) ∧ Below w.heap.size w w' := by
  have hN := Next_any first v l w h hl
  rw [first_nat] at hN
  have HN := Lib.hid hN; clear hN
  obtain ⟨S, hS⟩ : ∃ S, S = sum l := ⟨_, rfl⟩
  rw [← hS]
  have HS := Lib.hid hS; clear hS
  go_enter Try.func67, Try.ntmps67
  go_wp2_with fail
  refine (HN.out).mono ?_
  rw [show behind first l = S from HS.out.symm]
  rintro e w' ⟨rfl, b⟩
  go_wp2
  go_ret2
  exact ⟨rfl, b⟩
theorem Step_any (s : UInt64) (b : UInt8) (w : World) : Calls Try.prog 107 #[.int .u64 s.toNat, .int .u8 b.toNat] w fun e w' => e = .returned (.int .u64 (fnv s b).toNat) ∧ w = w' := by
  have hs := toNat_lt s
  have hb := b.toNat_lt
  obtain ⟨z, hz⟩ : ∃ z : Nat, z = (s.toNat % 256) ^^^ b.toNat := ⟨_, rfl⟩
  have hz1 : bits .xor .u8 ((s.toNat : Int) % 256) (b.toNat : Int) = (z : Int) := by
    rw [hz]; exact bits_xor_u8 (a := s.toNat % 256) (by omega) (by omega)
  have hz2 : z < 256 := by rw [hz]; exact Nat.xor_lt_two_pow (n := 8) (by omega) (by omega)
  have hf : (fnv s b).toNat = (s.toNat - s.toNat % 256 + z) * 1099511628211 % 18446744073709551616 := by rw [fnv_nat, xor_low _ _ (by omega), hz]
  have HF := Lib.hid hf; clear hf hz
  go_enter Try.func107, Try.ntmps107
  go_wp2
  go_ret
  refine ⟨ret_int ?_, rfl⟩
  rw [HF.out]
  first | omega | (rw [wrap_u64]; omega)
set_option maxHeartbeats 1000000 in
theorem Behind_any (s : UInt64) (v : Value) (l : List UInt64) (w : World) (h : Words w v l) (hl : l.length ≤ 2100) :
    Calls Try.prog 96 #[.int .u64 s.toNat, v] w fun e w' => e = .returned (.int .u64 (behind s l).toNat) ∧ Below w.heap.size w w' := by
  have l1 := Rd.len h Try.underlying25
  obtain ⟨N, hN⟩ : ∃ N, N = l.length := ⟨_, rfl⟩
  rw [← hN] at l1 hl
  have HN := Lib.hid hN; have H := Lib.hid h; have B : Below w.heap.size w w := Below.refl _ _
  clear hN h
  go_enter Try.func96, Try.ntmps96
  go_wp2
  go_loopw [0, 5] (fun st i wr => ∃ k : Nat, k ≤ N ∧ i = .int .i64 k ∧ st = .int .u64 (behind s (l.take k)).toNat ∧ Below w.heap.size w wr) (fun _ i _ => N - (intOf i).toNat)
  case atStart => exact ⟨0, Nat.zero_le _, rfl, rfl, B⟩
  case round =>
    obtain ⟨k, hk, rfl, rfl, hbel⟩ := hrel
    by_cases hlt : k < N
    · obtain ⟨ad, x, ia, ca, hx⟩ := (H.out.below hbel).at_ Try.underlying25 one_u64 (k := k) (by have := HN.out; omega)
      have HB := Lib.hid hbel; clear hbel
      go_wp2_with fail
      refine (BytesR_any _ _).mono ?_
      rw [bytesV_eq]
      rintro e w2 ⟨rfl, b⟩
      have B2 := HB.out.trans (b.mono HB.out.size)
      have HB2 := Lib.hid B2; clear b B2
      obtain ⟨s0, hs0⟩ : ∃ s0, s0 = behind s (l.take k) := ⟨_, rfl⟩
      rw [← hs0]
      have HS := Lib.hid hs0; clear hs0
      go_wp2
      refine wp_loop_rounds 9 ?_
      iterate 8 (rw [rounds_succ]; go_wp2_with fail; refine (Step_any _ _ _).mono ?_; rintro e w' ⟨rfl, rfl⟩; go_wp2)
      rw [rounds_succ]
      go_wp2
      go_roundw
      case rel => exact ⟨k + 1, by omega, by go_num, by rw [behind_take hx.out, ← HS.out]; rfl, HB2.out.alloc HB2.out.size _⟩
      case measure => simp [intOf]; omega
    · obtain rfl : k = N := by omega
      have HB := Lib.hid hbel; clear hbel
      go_wp2
      go_ret
      refine ⟨by rw [HN.out, List.take_length]; rfl, HB.out⟩
theorem SumR_any (v : Value) (l : List UInt64) (w : World) (h : Words w v l) (hl : l.length ≤ 2100) :
    Calls Try.prog 85 #[v] w fun e w' => e = .returned (.int .u64 (sum l).toNat) ∧ Below w.heap.size w w' := by
  have hN := Behind_any first v l w h hl
  rw [first_nat] at hN
  have HN := Lib.hid hN; clear hN
  obtain ⟨S, hS⟩ : ∃ S, S = sum l := ⟨_, rfl⟩
  rw [← hS]
  have HS := Lib.hid hS; clear hS
  go_enter Try.func85, Try.ntmps85
  go_wp2_with fail
  refine (HN.out).mono ?_
  rw [show behind first l = S from HS.out.symm]
  rintro e w' ⟨rfl, b⟩
  go_wp2
  go_ret
  exact ⟨rfl, b⟩
end Go.Proofs.Ytodbbacmdjcheaa
namespace Go.Proofs.Ytodbbacmdjcheaa
open Go.RowKit L02 L05 L13
set_option maxHeartbeats 600000 in
theorem KCheck_any (v : Value) (l : List UInt8) (r : Int) (hr : r = kErr l) (w : World) (h : Byts w v l) : Calls Try.prog 66 #[v] w fun e w' => e = .returned (.int .i64 r) ∧ w = w' := by
  have l1 := Rd.len h Try.underlying69
  obtain ⟨N, hN⟩ : ∃ N, N = l.length := ⟨_, rfl⟩
  rw [← hN] at l1
  have HN := Lib.hid hN; have H := Lib.hid h; have HR := Lib.hid hr; clear hN h hr
  by_cases hbig : 8 < N
  · go_enter Try.func66, Try.ntmps66
    go_wp2
    go_ret
    exact ⟨ret_int (by rw [HR.out, kErr_many (by have := HN.out; omega)]), rfl⟩
  · have hs : N ≤ 8 := by omega
    clear hbig
    go_enter Try.func66, Try.ntmps66
    go_wp2
    go_loop [10] (fun i => ∃ k : Nat, k ≤ N ∧ i = .int .i64 k ∧ Hid (∀ x ∈ l.take k, 1 ≤ x.toNat ∧ x.toNat ≤ 3)) (fun i => N - (intOf i).toNat)
    case atStart => exact ⟨0, Nat.zero_le _, rfl, Lib.hid (by simp)⟩
    case round =>
      obtain ⟨k, hk, rfl, hh⟩ := hrel
      by_cases hlt : k < N
      · obtain ⟨ad, x, ia, ca, hx⟩ := H.out.at_ (P := Try.prog) Try.underlying69 one_u8 (k := k) (by have := HN.out; omega)
        by_cases hg : 1 ≤ x.toNat ∧ x.toNat ≤ 3
        · obtain ⟨h1, h2⟩ := hg
          go_wp2
          go_round
          case rel =>
            refine ⟨k + 1, by omega, by go_num, Lib.hid ?_⟩
            intro y hy
            rw [List.take_add_one, hx.out] at hy
            rcases List.mem_append.1 hy with hy | hy
            · exact hh.out y hy
            · simp at hy; subst hy; exact ⟨h1, h2⟩
          case measure => simp [intOf]; omega
        · have hcase : x.toNat < 1 ∨ 1 ≤ x.toNat ∧ 3 < x.toNat := by omega
          have hb := kErr_bad (by have := HN.out; omega) hx.out hg
          have HB := Lib.hid hb; clear hb hg
          rcases hcase with h1 | ⟨h1, h2⟩
          all_goals
            go_wp2
            go_ret
            exact ⟨ret_int (by rw [HR.out, HB.out]), rfl⟩
      · obtain rfl : k = N := by omega
        go_wp2
        go_ret
        refine ⟨ret_int ?_, rfl⟩
        rw [HR.out, kErr_of (by have := HN.out; omega)]
        have := hh.out
        rw [List.take_of_length_le (by have := HN.out; omega)] at this
        exact this
set_option maxHeartbeats 600000 in
theorem KCheckR_any (v : Value) (l : List UInt8) (r : Int) (hr : r = kErr l) (w : World) (h : Byts w v l) : Calls Try.prog 38 #[v] w fun e w' => e = .returned (.int .i64 r) ∧ w = w' := by
  have l1 := Rd.len h Try.underlying69
  obtain ⟨N, hN⟩ : ∃ N, N = l.length := ⟨_, rfl⟩
  rw [← hN] at l1
  have HN := Lib.hid hN; have H := Lib.hid h; have HR := Lib.hid hr; clear hN h hr
  by_cases hbig : 8 < N
  · go_enter Try.func38, Try.ntmps38
    go_wp2
    go_ret
    exact ⟨ret_int (by rw [HR.out, kErr_many (by have := HN.out; omega)]), rfl⟩
  · have hs : N ≤ 8 := by omega
    clear hbig
    go_enter Try.func38, Try.ntmps38
    go_wp2
    go_loop [3] (fun i => ∃ k : Nat, k ≤ N ∧ i = .int .i64 k ∧ Hid (∀ x ∈ l.take k, 1 ≤ x.toNat ∧ x.toNat ≤ 3)) (fun i => N - (intOf i).toNat)
    case atStart => exact ⟨0, Nat.zero_le _, rfl, Lib.hid (by simp)⟩
    case round =>
      obtain ⟨k, hk, rfl, hh⟩ := hrel
      by_cases hlt : k < N
      · obtain ⟨ad, x, ia, ca, hx⟩ := H.out.at_ (P := Try.prog) Try.underlying69 one_u8 (k := k) (by have := HN.out; omega)
        by_cases hg : 1 ≤ x.toNat ∧ x.toNat ≤ 3
        · obtain ⟨h1, h2⟩ := hg
          have e0 : ((x.toNat : Int) == 0) = false := by rw [beq_eq_false_iff_ne]; omega
          go_wp2
          go_round
          case rel =>
            refine ⟨k + 1, by omega, by go_num, Lib.hid ?_⟩
            intro y hy
            rw [List.take_add_one, hx.out] at hy
            rcases List.mem_append.1 hy with hy | hy
            · exact hh.out y hy
            · simp at hy; subst hy; exact ⟨h1, h2⟩
          case measure => simp [intOf]; omega
        · have hcase : ((x.toNat : Int) == 0) = true ∨ ((x.toNat : Int) == 0) = false ∧ 3 < x.toNat := by
            by_cases h0 : x.toNat = 0
            · exact .inl (by rw [beq_iff_eq]; omega)
            · exact .inr ⟨by rw [beq_eq_false_iff_ne]; omega, by omega⟩
          have hb := kErr_bad (by have := HN.out; omega) hx.out hg
          have HB := Lib.hid hb; clear hb hg
          rcases hcase with h1 | ⟨h1, h2⟩
          all_goals
            go_wp2
            go_ret
            exact ⟨ret_int (by rw [HR.out, HB.out]), rfl⟩
      · obtain rfl : k = N := by omega
        go_wp2
        go_ret
        refine ⟨ret_int ?_, rfl⟩
        rw [HR.out, kErr_of (by have := HN.out; omega)]
        have := hh.out
        rw [List.take_of_length_le (by have := HN.out; omega)] at this
        exact this
theorem kErr_len {l : List UInt8} (h : kErr l = 0) : l.length ≤ 8 := (kErr_ok h).1
end Go.Proofs.Ytodbbacmdjcheaa

namespace Go.Proofs.Ytodbbacmdjcheaa
open Go.RowKit L02 L05 L13
theorem Of_r (v : Value) (l : List UInt64) (x : UInt64) (hx : x = sum l) (w : World) (h : Words w v l) (hl : l.length ≤ 2048) :
    Calls Try.prog 67 #[v] w fun e w' => e = .returned (.tuple #[.int .u64 x.toNat, .int .i64 0]) ∧ Below w.heap.size w w' := by
  subst hx; exact Of_any v l w h hl
theorem SumR_r (v : Value) (l : List UInt64) (x : UInt64) (hx : x = sum l) (w : World) (h : Words w v l) (hl : l.length ≤ 2100) :
    Calls Try.prog 85 #[v] w fun e w' => e = .returned (.int .u64 x.toNat) ∧ Below w.heap.size w w' := by
  subst hx; exact SumR_any v l w h hl
theorem lit_word {w : World} {e n : Nat} (x : UInt64) (hn : w.heap.size = n) : Words (w.alloc (.cells #[.int .u64 x.toNat] e)) (.slice (some ⟨n, 0, none⟩) 1 1) [x] := by
  subst hn; exact lit_words [x] rfl rfl (by simp)
theorem or_digit {l : List UInt8} {k z N : Nat} {x : UInt8} (h0 : kErr l = 0) (hN : N = l.length) (hx : l[k]? = some x) (hz : z = fN (l.take k) * 256 + N) :
    bits .or .u64 (z : Int) (IntKind.u64.wrap ((x.toNat : Int) * 2 ^ (8 + 2 * k))) = ((fN (l.take (k + 1)) * 256 + N : Nat) : Int) := by
  obtain ⟨h1, h2⟩ := kErr_ok h0
  have hk : k < l.length := (List.getElem?_eq_some_iff.1 hx).1
  have hlt := fN_lt (l.take k) fun y hy => (h2 y (List.mem_of_mem_take hy)).2
  rw [List.length_take, Nat.min_eq_left (by omega)] at hlt
  have e4 : (2 : Nat) ^ (8 + 2 * k) = 4 ^ k * 256 := by rw [Nat.pow_add, Nat.pow_mul, Nat.mul_comm]
  have hp : 4 ^ k ≤ 4 ^ 8 := Nat.pow_le_pow_right (by omega) (by omega)
  have hx3 := (h2 x (List.mem_of_getElem? hx)).2
  have e1 : ((x.toNat : Int) * 2 ^ (8 + 2 * k)) = ((2 ^ (8 + 2 * k) * x.toNat : Nat) : Int) := by
    rw [Int.natCast_mul, Int.natCast_pow, Int.mul_comm]; rfl
  have hb : 2 ^ (8 + 2 * k) * x.toNat ≤ 4 ^ 8 * 256 * 3 := by
    rw [e4]; exact Nat.mul_le_mul (Nat.mul_le_mul_right _ hp) hx3
  simp only [show (4 : Nat) ^ 8 = 65536 from rfl] at hb hp
  have hzl : z < 2 ^ (8 + 2 * k) := by rw [e4]; omega
  have ew : IntKind.u64.wrap ((2 ^ (8 + 2 * k) * x.toNat : Nat) : Int) = ((2 ^ (8 + 2 * k) * x.toNat : Nat) : Int) := by
    rw [wrap_u64]
    generalize 2 ^ (8 + 2 * k) * x.toNat = q at hb
    omega
  rw [e1, ew, or_int (8 + 2 * k) x.toNat (by omega) (by exact_mod_cast hzl) rfl (by omega) (by generalize 2 ^ (8 + 2 * k) * x.toNat = q at hb; omega)]
  rw [fN_take hx, hz, e4]
  have : 4 ^ k * 256 * x.toNat = x.toNat * 4 ^ k * 256 := by rw [Nat.mul_comm, Nat.mul_assoc]
  omega
set_option maxHeartbeats 1000000 in
theorem KWrite_any (v : Value) (l : List UInt8) (a b : UInt64) (r : Int) (ha : a = w0 l) (hb : b = w1 l) (hr : r = kErr l) (w : World) (h : Byts w v l) :
    Calls Try.prog 34 #[v] w fun e w' => e = .returned (.tuple #[.agg #[.int .u64 a.toNat, .int .u64 b.toNat], .int .i64 r]) ∧ Below w.heap.size w w' := by
  have B : Below w.heap.size w w := Below.refl _ _
  have l1 := Rd.len h Try.underlying69
  obtain ⟨N, hN⟩ : ∃ N, N = l.length := ⟨_, rfl⟩
  rw [← hN] at l1
  have CT := fun w h => KCheck_any v l r hr w h
  have HC := Lib.hid CT; have H := Lib.hid h; clear CT h
  by_cases h0 : kErr l = 0
  · have hs : N ≤ 8 := by rw [hN]; exact kErr_len h0
    rw [h0] at hr
    subst hr
    have HN := Lib.hid hN; have H0 := Lib.hid h0
    have an : a.toNat = firstN l := by rw [ha]; exact w0_nat h0
    have hb' : b = sum [a] := by rw [hb, w1, if_pos h0, ha]
    have HAN := Lib.hid an; have HB := Lib.hid hb'
    clear hN h0 ha hb an hb'
    go_enter Try.func34, Try.ntmps34
    go_upto_region 1 with (fail)
    refine wp_gen (fun Wv => Bx Wv (w.heap.size) (76) (#[.int .u64 0, .int .u64 0]) ∧ Below w.heap.size w Wv) ⟨((Bx.at_ (by simp))), ((Below.refl _ w).alloc (by simp <;> omega) _)⟩ ?_
    rintro w' ⟨g2, b⟩
    replace B := B.trans (b.mono B.size); clear b
    have c_g2 := g2.cell; have f_g2 := g2.free; have a_g2 := fun o => (g2.alloc o).cell; have d_g2 := fun o o2 => ((g2.alloc o).alloc o2).cell; have e_g2 := fun o => (g2.alloc o).free
    go_wp2_with fail
    refine (HC.out _ (H.out.below B)).mono ?_
    rintro e w2 ⟨rfl, rfl⟩
    obtain ⟨w3, hw3⟩ : ∃ w3, w3 = w' := ⟨_, rfl⟩
    subst hw3
    go_wp2
    have HG := Lib.hid g2; have HBB := Lib.hid B; have HL := Lib.hid (H.out.below B)
    clear c_g2 f_g2 a_g2 d_g2 e_g2 g2 B
    go_loop [5, 21] (fun y i => ∃ k z : Nat, k ≤ N ∧ i = .int .i64 k ∧ y = .int .u64 (z : Int) ∧ Hid (z = fN (l.take k) * 256 + N)) (fun _ i => N - (intOf i).toNat)
    case atStart => exact ⟨0, N, Nat.zero_le _, rfl, by simp, Lib.hid (by simp [fN])⟩
    case round =>
      obtain ⟨k, z, hk, rfl, rfl, hz⟩ := hrel
      by_cases hlt : k < N
      · obtain ⟨ad, x, ia, ca, hx⟩ := HL.out.at_ (P := Try.prog) Try.underlying69 one_u8 (k := k) (by have := HN.out; omega)
        have hxl := x.toNat_lt
        go_wp2
        refine ⟨⟨k + 1, fN (l.take (k + 1)) * 256 + N, by omega, by go_num, ?_, Lib.hid rfl⟩, ?_⟩
        · rw [or_digit H0.out HN.out hx.out hz.out]
        · simp [intOf]; omega
      · obtain rfl : k = N := by omega
        have hza : z = a.toNat := by rw [hz.out, HAN.out, firstN, HN.out, List.take_length]
        subst hza
        have OT := fun v w h => Of_r v [a] b HB.out w h (by simp)
        have HO := Lib.hid OT; clear OT
        go_wp2_with fail
        refine (HO.out _ _ (lit_word a rfl)).mono ?_
        rintro e w4 ⟨rfl, bb⟩
        have g2 := HG.out.below ((Below.refl _ _).alloc (Nat.le_refl _) (.cells #[.int .u64 a.toNat] 64))
        replace g2 := g2.below bb
        have B := (HBB.out.alloc HBB.out.size (.cells #[.int .u64 a.toNat] 64)).trans (bb.mono (Nat.le_trans HBB.out.size (by simp)))
        have k2 := g2.cell; have l2 := g2.free
        clear bb g2
        go_wp2
        refine bodyPost_ret (v := .tuple #[.agg #[.int .u64 a.toNat, .int .u64 b.toNat], .int .i64 0]) (by simp [results, Try.results34, go_sem, k2, l2]) rfl ⟨rfl, ?_⟩
        (repeat (first | refine Below.setCell ?_ (by first | exact Nat.le_refl _ | (simp <;> omega)) _ | refine Below.alloc ?_ (by first | exact B.size | (have := B.size; simp <;> omega)) _)); exact B
  · have hne : (r != 0) = true := by rw [bne_iff_ne, hr]; exact h0
    have ha0 : a = 0 := by rw [ha, w0, if_neg h0]
    have hb0 : b = 0 := by rw [hb, w1, if_neg h0]
    subst ha0 hb0
    clear ha hb hr h0 hN
    go_enter Try.func34, Try.ntmps34
    go_upto_region 1 with (fail)
    refine wp_gen (fun Wv => Bx Wv (w.heap.size) (76) (#[.int .u64 0, .int .u64 0]) ∧ Below w.heap.size w Wv) ⟨((Bx.at_ (by simp))), ((Below.refl _ w).alloc (by simp <;> omega) _)⟩ ?_
    rintro w' ⟨g2, b⟩
    replace B := B.trans (b.mono B.size); clear b
    have c_g2 := g2.cell; have f_g2 := g2.free; have a_g2 := fun o => (g2.alloc o).cell; have d_g2 := fun o o2 => ((g2.alloc o).alloc o2).cell; have e_g2 := fun o => (g2.alloc o).free
    go_wp2_with fail
    refine (HC.out _ (H.out.below B)).mono ?_
    rintro e w2 ⟨rfl, rfl⟩
    go_wp2
    refine bodyPost_ret (v := .tuple #[.agg #[.int .u64 0, .int .u64 0], .int .i64 r]) (by simp [results, Try.results34, go_sem, c_g2, f_g2, a_g2, e_g2]) rfl ?_
    refine ⟨rfl, ?_⟩
    (repeat (first | refine Below.setCell ?_ (by first | exact Nat.le_refl _ | (simp <;> omega)) _ | refine Below.alloc ?_ (by first | exact B.size | (have := B.size; simp <;> omega)) _)); exact B
set_option maxHeartbeats 1000000 in
theorem FirstR_any (v : Value) (l : List UInt8) (a : UInt64) (ha : a = w0 l) (h0 : kErr l = 0) (w : World) (h : Byts w v l) :
    Calls Try.prog 86 #[v] w fun e w' => e = .returned (.int .u64 a.toNat) ∧ w = w' := by
  have l1 := Rd.len h Try.underlying69
  obtain ⟨N, hN⟩ : ∃ N, N = l.length := ⟨_, rfl⟩
  rw [← hN] at l1
  have hs : N ≤ 8 := by rw [hN]; exact kErr_len h0
  have H := Lib.hid h; have HN := Lib.hid hN; have H0 := Lib.hid h0
  have an : a.toNat = firstN l := by rw [ha]; exact w0_nat h0
  have HAN := Lib.hid an
  clear h hN h0 ha an
  go_enter Try.func86, Try.ntmps86
  go_wp2
  go_loop [3, 4] (fun y i => ∃ k z : Nat, k ≤ N ∧ i = .int .i64 ((k : Int) - 1) ∧ y = .int .u64 (z : Int) ∧ z < 65536 ∧ Hid (z = fN (l.drop k))) (fun _ i => (intOf i + 1).toNat)
  case atStart => exact ⟨N, 0, Nat.le_refl _, by go_num, rfl, by omega, Lib.hid (by rw [List.drop_of_length_le (by rw [HN.out]; exact Nat.le_refl _)]; rfl)⟩
  case round =>
    obtain ⟨k, z, hk, rfl, rfl, hzl, hz⟩ := hrel
    by_cases hlt : 0 < k
    · obtain ⟨j, rfl⟩ : ∃ j, k = j + 1 := ⟨k - 1, by omega⟩
      have ej : (((j + 1 : Nat) : Int) - 1) = (j : Int) := by omega
      rw [ej]
      obtain ⟨ad, x, ia, ca, hx⟩ := H.out.at_ (P := Try.prog) Try.underlying69 one_u8 (k := j) (by have := HN.out; omega)
      have hxl := x.toNat_lt
      have hfl := fN_lt (l.drop j) fun y hy => ((kErr_ok H0.out).2 y (List.mem_of_mem_drop hy)).2
      have hp := pow4_le (n := (l.drop j).length) (by rw [List.length_drop]; have := HN.out; omega)
      have hfd := fN_drop hx.out
      have hsm : z * 4 + x.toNat < 65536 := by rw [hz.out]; omega
      have HFD := Lib.hid hfd; clear hfl hp hfd ej
      go_wp2
      go_round
      case rel => exact ⟨j, z * 4 + x.toNat, by omega, by go_num, by go_num, hsm, Lib.hid (by have h5 := HFD.out; have h6 := hz.out; omega)⟩
      case measure => simp [intOf] <;> omega
    · obtain rfl : k = 0 := by omega
      go_wp2
      go_ret
      refine ⟨ret_int ?_, rfl⟩
      have h1 := HAN.out; have h2 := hz.out; have h3 := HN.out
      rw [List.drop_zero] at h2
      rw [h1, firstN, ← h2, ← h3]
      try omega
set_option maxHeartbeats 1000000 in
theorem KWriteR_any (v : Value) (l : List UInt8) (a b : UInt64) (r : Int) (ha : a = w0 l) (hb : b = w1 l) (hr : r = kErr l) (w : World) (h : Byts w v l) :
    Calls Try.prog 61 #[v] w fun e w' => e = .returned (.tuple #[.agg #[.int .u64 a.toNat, .int .u64 b.toNat], .int .i64 r]) ∧ Below w.heap.size w w' := by
  have B : Below w.heap.size w w := Below.refl _ _
  have CT := fun w h => KCheckR_any v l r hr w h
  have HC := Lib.hid CT; have H := Lib.hid h; clear CT h
  by_cases h0 : kErr l = 0
  · have FT := fun w h => FirstR_any v l a ha h0 w h
    have ST := fun v w h => SumR_r v [a] b (by rw [hb, w1, if_pos h0, ha]) w h (by simp)
    have HF := Lib.hid FT; have HS := Lib.hid ST
    rw [h0] at hr
    subst hr
    clear FT ST h0 ha hb
    go_enter Try.func61, Try.ntmps61
    go_upto_region 1 with (fail)
    refine wp_gen (fun Wv => Bx Wv (w.heap.size) (76) (#[.int .u64 0, .int .u64 0]) ∧ Below w.heap.size w Wv) ⟨((Bx.at_ (by simp))), ((Below.refl _ w).alloc (by simp <;> omega) _)⟩ ?_
    rintro w' ⟨g2, b⟩
    replace B := B.trans (b.mono B.size); clear b
    have c_g2 := g2.cell; have f_g2 := g2.free; have a_g2 := fun o => (g2.alloc o).cell; have d_g2 := fun o o2 => ((g2.alloc o).alloc o2).cell; have e_g2 := fun o => (g2.alloc o).free
    go_wp2_with fail
    refine (HC.out _ (H.out.below B)).mono ?_
    rintro e w2 ⟨rfl, rfl⟩
    go_wp2_with fail
    refine (HF.out _ (H.out.below B)).mono ?_
    rintro e w2 ⟨rfl, rfl⟩
    go_wp2_with fail
    refine (HF.out _ (H.out.below B)).mono ?_
    rintro e w2 ⟨rfl, rfl⟩
    go_wp2_with fail
    refine (HS.out _ _ (lit_word a rfl)).mono ?_
    rintro e w4 ⟨rfl, bb⟩
    clear c_g2 f_g2 a_g2 d_g2 e_g2
    replace g2 := (g2.below ((Below.refl _ _).alloc (Nat.le_refl _) (.cells #[.int .u64 a.toNat] 64))).below bb
    replace B := (B.alloc B.size (.cells #[.int .u64 a.toNat] 64)).trans (bb.mono (Nat.le_trans B.size (by simp)))
    have k2 := g2.cell; have l2 := g2.free
    clear bb
    go_wp2
    refine bodyPost_ret (v := .tuple #[.agg #[.int .u64 a.toNat, .int .u64 b.toNat], .int .i64 0]) (by simp [results, Try.results61, go_sem, k2, l2]) rfl ⟨rfl, ?_⟩
    (repeat (first | refine Below.setCell ?_ (by first | exact Nat.le_refl _ | (simp <;> omega)) _ | refine Below.alloc ?_ (by first | exact B.size | (have := B.size; simp <;> omega)) _)); exact B
  · have hne : (r != 0) = true := by rw [bne_iff_ne, hr]; exact h0
    have ha0 : a = 0 := by rw [ha, w0, if_neg h0]
    have hb0 : b = 0 := by rw [hb, w1, if_neg h0]
    subst ha0 hb0
    clear ha hb hr h0
    go_enter Try.func61, Try.ntmps61
    go_upto_region 1 with (fail)
    refine wp_gen (fun Wv => Bx Wv (w.heap.size) (76) (#[.int .u64 0, .int .u64 0]) ∧ Below w.heap.size w Wv) ⟨((Bx.at_ (by simp))), ((Below.refl _ w).alloc (by simp <;> omega) _)⟩ ?_
    rintro w' ⟨g2, b⟩
    replace B := B.trans (b.mono B.size); clear b
    have c_g2 := g2.cell; have f_g2 := g2.free; have a_g2 := fun o => (g2.alloc o).cell; have d_g2 := fun o o2 => ((g2.alloc o).alloc o2).cell; have e_g2 := fun o => (g2.alloc o).free
    go_wp2_with fail
    refine (HC.out _ (H.out.below B)).mono ?_
    rintro e w2 ⟨rfl, rfl⟩
    go_wp2_with fail
    refine (HC.out _ (H.out.below B)).mono ?_
    rintro e w2 ⟨rfl, rfl⟩
    go_wp2
    refine bodyPost_ret (v := .tuple #[.agg #[.int .u64 0, .int .u64 0], .int .i64 r]) (by simp [results, Try.results61, go_sem, c_g2, f_g2, a_g2, e_g2]) rfl ?_
    refine ⟨rfl, ?_⟩
    (repeat (first | refine Below.setCell ?_ (by first | exact Nat.le_refl _ | (simp <;> omega)) _ | refine Below.alloc ?_ (by first | exact B.size | (have := B.size; simp <;> omega)) _)); exact B
end Go.Proofs.Ytodbbacmdjcheaa
namespace Go.Proofs.Ytodbbacmdjcheaa
open Go.RowKit
section
variable {P : Program}
end
end Go.Proofs.Ytodbbacmdjcheaa
namespace Go.Proofs.Ytodbbacmdjcheaa
open Go.RowKit L02 L05 L13
end Go.Proofs.Ytodbbacmdjcheaa
namespace Go.Proofs.Ytodbbacmdjcheaa
open Go.RowKit L02 L05 L13
end Go.Proofs.Ytodbbacmdjcheaa
namespace Go.Proofs.Ytodbbacmdjcheaa
open Go.RowKit L02 L05 L13
/-- A slice of slices of bytes. -/
def Typs (w : World) (v : Value) (L : List (List UInt8)) : Prop := ∃ vs : List Value, vs.length = L.length ∧ Rd w 1 v L.length vs ∧ ∀ (i : Nat) x l, vs[i]? = some x → L[i]? = some l → Byts w x l
/-- .. of the call's own, its rows too. -/
def OwnT (w : World) (base : Nat) (v : Value) (L : List (List UInt8)) : Prop := ∃ vs : List Value, vs.length = L.length ∧ w.ownsRow base 69 1 v L.length vs ∧ ∀ (i : Nat) x l, vs[i]? = some x → L[i]? = some l → OwnB w base 5 x l
theorem OwnT.rd {w : World} {base : Nat} {v : Value} {L : List (List UInt8)} (h : OwnT w base v L) : Typs w v L := by
  obtain ⟨vs, h1, h2, h4⟩ := h; exact ⟨vs, h1, Rd.of_own h2, fun i x l h5 h6 => (h4 i x l h5 h6).rd⟩
theorem Typs.below {w w' : World} {v : Value} {L : List (List UInt8)} (h : Typs w v L) (hb : Below w.heap.size w w') : Typs w' v L := by
  obtain ⟨vs, h1, h2, h3⟩ := h; exact ⟨vs, h1, h2.below hb, fun i x l h4 h5 => (h3 i x l h4 h5).below hb⟩
theorem OwnT.below {w w' : World} {base : Nat} {v : Value} {L : List (List UInt8)} (h : OwnT w base v L) (hb : Below w.heap.size w w') : OwnT w' base v L := by
  obtain ⟨vs, h1, h2, h4⟩ := h; exact ⟨vs, h1, own_below h2 hb, fun i x l h5 h6 => (h4 i x l h5 h6).below hb⟩
theorem OwnT.nil (w : World) (base : Nat) : OwnT w base (.slice none 0 0) [] := ⟨[], rfl, World.ownsRow_nil w base _ 1, fun i x l h => by simp at h⟩
theorem Typs.len {w : World} {v : Value} {L : List (List UInt8)} (h : Typs w v L) : ∀ ty W, (Builtin.len_ #[22] ty #[v]).run Try.prog W = .ok (.int .i64 (L.length : Int)) W := by
  obtain ⟨vs, h1, h2, h3⟩ := h; exact Rd.len h2 Try.underlying22
theorem Typs.len_le {w : World} {v : Value} {L : List (List UInt8)} (h : Typs w v L) : L.length ≤ 9223372036854775807 := by
  obtain ⟨vs, h1, h2, h3⟩ := h; exact Rd.len_le h2
theorem one_bytes : (Try.prog.info? 69).map (·.size) = some 1 := by kernel_rfl
theorem info_bytes : (Try.prog.info? 69).map (fun i => (i.zero, i.size, i.bytes)) = some (some (.slice none 0 0), 1, 24) := by kernel_rfl
theorem Typs.at_ {w : World} {v : Value} {L : List (List UInt8)} (h : Typs w v L) {k : Nat} (hk : k < L.length) :
    ∃ ad x l, (∀ W, (Instr.indexAt 22 v (.int .i64 (k : Int))).run Try.prog W = .ok (.pointer (some ad)) W) ∧ w.cell? ad = some x ∧ Hid (L[k]? = some l) ∧ Hid (Byts w x l) := by
  obtain ⟨vs, h1, h2, h3⟩ := h
  have hv : vs[k]? = some vs[k] := List.getElem?_eq_getElem (by omega)
  have hl : L[k]? = some L[k] := List.getElem?_eq_getElem hk
  exact ⟨_, vs[k], L[k], fun W => Rd.ixN h2 Try.underlying22 one_bytes hk W, by rw [Nat.mul_one]; exact Rd.cell h2 hv, Lib.hid hl, Lib.hid (h3 k _ _ hv hl)⟩
theorem Byts.oneCell {w : World} {x : Value} {l : List UInt8} (h : Byts w x l) : x.oneCell' = true := by
  obtain ⟨A, c, rfl, _⟩ := h; rfl
/-- two own rows of unlike elements lie in unlike blocks. -/
theorem own_unlike {w : World} {b1 b2 e1 e2 s1 s2 n1 n2 : Nat} {x a : Value} {xs ys : List Value} (hx : w.ownsRow b1 e1 s1 x n1 xs) (ha : w.ownsRow b2 e2 s2 a n2 ys) (h : e1 ≠ e2) : x.ownBlock = none ∨ x.ownBlock ≠ a.ownBlock := by
  rcases hx.2 with ⟨rfl, _⟩ | ⟨g, cap, cur, rfl, _, hg, _⟩
  · exact .inl rfl
  · rcases ha.2 with ⟨rfl, _⟩ | ⟨g', cap', cur', rfl, _, hg', _⟩
    · exact .inr (by simp [Value.ownBlock])
    · refine .inr ?_
      intro he
      simp [Value.ownBlock] at he
      subst he
      rw [hg] at hg'
      injection hg' with hg'
      injection hg' with _ h2 _
      exact h h2
/-- one more row. -/
theorem OwnT.snoc {w w' : World} {base n : Nat} {v v' x : Value} {L : List (List UInt8)} {l : List UInt8} {vs : List Value} (h1 : vs.length = L.length) (ho0 : w.ownsRow base 69 1 v L.length vs) (ho : w'.ownsRow base 69 1 v' n (vs ++ [x]))
    (h4 : ∀ (i : Nat) x l, vs[i]? = some x → L[i]? = some l → OwnB w base 5 x l) (hx : OwnB w base 5 x l) (hg : w.grownBy w' v.ownBlock) : OwnT w' base v' (L ++ [l]) := by
  have hn : n = (L ++ [l]).length := by have := ho.1; simp at this ⊢; omega
  subst hn
  have keep : ∀ y m, OwnB w base 5 y m → OwnB w' base 5 y m := fun y m hy => World.ownsRow.kept hy hg (own_unlike hy ho0 (by decide))
  refine ⟨vs ++ [x], by simp [h1], ho, fun i y m hy hm => ?_⟩
  by_cases hi : i < vs.length
  · rw [List.getElem?_append_left hi] at hy
    rw [List.getElem?_append_left (by omega)] at hm
    exact keep _ _ (h4 i y m hy hm)
  · rw [List.getElem?_append_right (by omega)] at hy
    rw [List.getElem?_append_right (by omega)] at hm
    have h0 : i - vs.length = 0 := by
      rcases Nat.eq_zero_or_pos (i - vs.length) with h | h
      · exact h
      · rw [List.getElem?_eq_none (by simp; omega)] at hy; cases hy
    rw [h0] at hy; rw [← h1, h0] at hm
    simp at hy hm; subst hy; subst hm
    exact keep _ _ hx
end Go.Proofs.Ytodbbacmdjcheaa
namespace Go.Proofs.Ytodbbacmdjcheaa
open Go.RowKit L02 L05 L13
set_option maxHeartbeats 2000000 in
theorem SameT_any (va vb : Value) (La Lb : List (List UInt8)) (r : Bool) (hr : r = decide (La = Lb)) (w : World) (ha : Typs w va La) (hb : Typs w vb Lb) :
    Calls Try.prog 16 #[va, vb] w fun e w' => e = .returned (.bool r) ∧ Below w.heap.size w w' := by
  have B : Below w.heap.size w w := Below.refl _ _
  have la1 := ha.len; have lb1 := hb.len
  have la2 := ha.len_le; have lb2 := hb.len_le
  have HA := Lib.hid ha; have HB := Lib.hid hb; have HR := Lib.hid hr; clear ha hb hr
  obtain ⟨na, hna⟩ : ∃ na, na = La.length := ⟨_, rfl⟩
  obtain ⟨nb, hnb⟩ : ∃ nb, nb = Lb.length := ⟨_, rfl⟩
  rw [← hna] at la1 la2; rw [← hnb] at lb1 lb2
  have Hna := Lib.hid hna; have Hnb := Lib.hid hnb; clear hna hnb
  by_cases hl : na = nb
  · subst hl
    go_enter Try.func16, Try.ntmps16
    go_wp2
    have HBB := Lib.hid B; clear B
    go_loopw [5] (fun i wr => ∃ k : Nat, k ≤ na ∧ i = .int .i64 k ∧ Hid (La.take k = Lb.take k) ∧ Below w.heap.size w wr) (fun i _ => na - (intOf i).toNat)
    case atStart => exact ⟨0, Nat.zero_le _, rfl, Lib.hid rfl, HBB.out⟩
    case round =>
      obtain ⟨k, hk, rfl, heq, B⟩ := hrel
      by_cases hlt : k < na
      · obtain ⟨ad, x, s, ia, m0, hs, hx⟩ := (HA.out.below B).at_ (k := k) (by have := Hna.out; omega)
        obtain ⟨bd, y, t, ib, m1, ht, hy⟩ := (HB.out.below B).at_ (k := k) (by have := Hnb.out; omega)
        have sx := fun z : Fut wr => (hx.out.below z.h).str (P := Try.prog) (dst := 9) Try.underlying69 Try.underlying5 Try.underlying9
        have sy := fun z : Fut wr => (hy.out.below z.h).str (P := Try.prog) (dst := 9) Try.underlying69 Try.underlying5 Try.underlying9
        obtain ⟨c, hc⟩ : ∃ c, c = decide (s = t) := ⟨_, rfl⟩
        have hst : (s == t) = c := by rw [hc, Bool.eq_iff_iff, beq_iff_eq, decide_eq_true_iff]
        have HC := Lib.hid hc; clear hc
        cases c
        · go_wp2
          refine wp_region_calm (by kernel_rfl) (by kernel_rfl) ?_
          have c_m0 := fun x : Fut _ => cell_later x.h m0
          have c_m1 := fun x : Fut _ => cell_later x.h m1
          repeat (go_big_quiet_step (fail))
          refine wpQuiet_nil ?_
          intro _ hw'
          obtain ⟨xq, hw''⟩ := hw'
          subst hw''
          clear c_m0; replace m0 := cell_later xq.h m0
          clear c_m1; replace m1 := cell_later xq.h m1
          replace B := B.trans (xq.h.mono B.size)
          clear sx sy hst
          go_wp2
          go_ret
          refine ⟨ret_bool ?_, B⟩
          have e : ¬ s = t := by have := HC.out; simpa using this
          rw [HR.out, eq_comm, decide_eq_false_iff_not]
          intro hab
          have h1 := hs.out; have h2 := ht.out
          rw [hab, h2] at h1
          injection h1 with h1
          exact e h1.symm
        · go_wp2
          refine wp_region_calm (by kernel_rfl) (by kernel_rfl) ?_
          have c_m0 := fun x : Fut _ => cell_later x.h m0
          have c_m1 := fun x : Fut _ => cell_later x.h m1
          repeat (go_big_quiet_step (fail))
          refine wpQuiet_nil ?_
          intro _ hw'
          obtain ⟨xq, hw''⟩ := hw'
          subst hw''
          clear c_m0; replace m0 := cell_later xq.h m0
          clear c_m1; replace m1 := cell_later xq.h m1
          replace B := B.trans (xq.h.mono B.size)
          clear sx sy hst
          go_wp2
          go_roundw
          case rel =>
            have e : s = t := by have := HC.out; simpa using this
            refine ⟨k + 1, by omega, by go_num, Lib.hid ?_, B⟩
            rw [List.take_add_one, List.take_add_one, heq.out, hs.out, ht.out, e]
          case measure => simp [intOf]; omega
      · obtain rfl : k = na := by omega
        go_wp2
        go_ret
        refine ⟨ret_bool ?_, B⟩
        have h1 := heq.out
        rw [List.take_of_length_le (by have := Hna.out; omega), List.take_of_length_le (by have := Hnb.out; omega)] at h1
        rw [HR.out, h1, decide_eq_true rfl]
  · have hl' : ((na : Int) != nb) = true := by rw [bne_iff_ne]; omega
    go_enter Try.func16, Try.ntmps16
    go_wp2
    go_ret
    refine ⟨ret_bool ?_, B⟩
    rw [HR.out, eq_comm, decide_eq_false_iff_not]
    intro hab
    have h1 := Hna.out; have h2 := Hnb.out
    rw [hab] at h1; omega
end Go.Proofs.Ytodbbacmdjcheaa

