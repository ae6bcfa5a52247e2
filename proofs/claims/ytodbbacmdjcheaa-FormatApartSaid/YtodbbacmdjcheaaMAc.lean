/- Contracts of the functions that the laws 'A' reach, part 3. No condition. -/
import Derived.Test.YtodbbacmdjcheaaMAb
set_option linter.unusedVariables false
set_option linter.unusedSimpArgs false
namespace Go.Proofs.Ytodbbacmdjcheaa
open Go.RowKit L02 L05 L06 L19
theorem putW_cut : ∀ (m l : List UInt64) (a : Nat), a + m.length ≤ l.length → putW l a m = l.take a ++ (m ++ l.drop (a + m.length))
  | [], l, a, h => by simp [putW]
  | x :: xs, l, a, h => by
    rw [List.length_cons] at h
    rw [putW, putW_cut xs _ _ (by rw [List.length_set]; omega), List.length_cons]
    rw [List.take_succ_eq_append_getElem (by rw [List.length_set]; omega), List.getElem_set_self, List.take_set_of_le (Nat.le_refl a), List.drop_set_of_lt (by omega), List.append_assoc, List.singleton_append, List.cons_append, show a + 1 + xs.length = a + (xs.length + 1) by omega]
theorem spl_put {l m : List UInt64} {a : Nat} (h : a + m.length ≤ l.length) : splice (l.map u64) a (m.map u64) = (putW l a m).map u64 := by
  rw [putW_cut _ _ _ h]
  unfold splice
  rw [List.map_append, List.map_append, List.map_take, List.map_drop, List.length_map]
set_option maxRecDepth 100000 in
set_option maxHeartbeats 2000000 in
theorem put_any (v sv : Value) (l m : List UInt64) (a B : Nat) (hm : a + m.length ≤ l.length) (w : World) (o : OwnW w B 64 v l) (hs : Rd w 1 sv m.length (m.map u64)) (hB : B ≤ w.heap.size) :
    Calls Try.prog 28 #[v, .int .i64 a, sv] w fun e w' => (∃ u, e = .returned u) ∧ OwnW w' B 64 v (putW l a m) ∧ Below B w w' ∧ w.grownBy w' v.ownBlock := by
  obtain ⟨dv, sl, cut⟩ := own_cutFrom (P := Try.prog) o Try.underlying25 one_u64 (lo := (a : Int)) (by omega) (by omega)
  have sl' : ∀ W, (Instr.sliceAt 25 v (some (.int .i64 a)) none none).run Try.prog W = .ok dv W := sl
  obtain ⟨w', hrun, h2, h3⟩ := run_copy_own (P := Try.prog) (sT := 25) (ty := 3) Try.underlying25 one_u64 o cut hs (one_u64s _)
  clear sl
  have hrun' := Lib.hid hrun; have H2 := Lib.hid h2; have H3 := Lib.hid h3; have HM := Lib.hid hm
  have BB := Lib.hid ((Below.refl B w).grown h3 hB fun k hk => (o.lt k hk).1)
  clear hrun h2 h3 hm o hs cut hB
  go_enter Try.func28, Try.ntmps28
  go_wp2_with fail
  rw [hrun'.out, Result.andThen_ok]
  go_wp2
  refine bodyPost_end (results_none rfl _ _ _) rfl ⟨⟨_, rfl⟩, OwnW.of H2.out ?_, BB.out, H3.out⟩
  have := HM.out
  rw [List.take_of_length_le (by rw [List.length_map]; simp; omega), Int.toNat_natCast, spl_put (by omega)]
end Go.Proofs.Ytodbbacmdjcheaa
namespace Go.Proofs.Ytodbbacmdjcheaa.RF
open Go.RowKit
/-- what the body of a round must leave -/
def rdE (B : Nat) (X : World) (J : World → Prop) : Exit → Act → World → Prop
  | .normal, _, W => KeepsFrom B X W ∧ J W
  | _, _, _ => False
theorem keeps_below {B : Nat} {X Y : World} (h : Below X.heap.size X Y) : KeepsFrom B X Y :=
  ⟨h.size, fun k o _ hk _ => (h.block k (Array.getElem?_eq_some_iff.1 hk).1).trans hk⟩
theorem keeps_set {B : Nat} (X : World) (a : Addr) (u : Value) : KeepsFrom B X (X.setCell a u) := (KeepsOthers.setCell _ _ _).from _
theorem put_below {X : World} {n l : Nat} (o : Obj) (h : n ≤ l) : Below n X (X.putObj l o) :=
  ⟨rfl, rfl, rfl, by simp, fun k hk => World.putObj_heap_other (by omega)⟩
theorem wpIn_rangeE {P : Program} {m : Nat} {g : Operand} {ps : Array Tmp} {assign body : Code} {Q : Exit → Act → World → Prop} {a : Act} {w : World}
    {gf : Nat} {lb : Array Value} (hg : a.eval g = .func (.func gf) #[] lb) (eg : ∀ args w, (callFunc gf args).run P w = .ok (.enter gf args) w)
    (J : Nat → World → Prop) (hJ : ∀ k A B, J k A → Below w.heap.size A B → J k B) (h0 : J 0 w) (N : Nat)
    (encs : Nat → Array Value) (hps : ∀ k, (encs k).size = ps.size) (R : Nat → World → World → Prop)
    (hR : ∀ k A B, J k A → R k A B → KeepsFrom w.heap.size A B)
    (hcall : ∀ (l : Nat) (J' : Nat → World → Prop) (W : World), (∀ k A, J' k A → J k A) → (∀ k A B, J' k A → Below A.heap.size A B → J' k B) →
      (∀ k A, J' k A → k < N → YieldAt Fence.wide (m - 1 - 1) P l (encs k) A fun e W' => e = .returned (.bool true) ∧ J' (k + 1) W') → J' 0 W →
      CallsIn Fence.wide (m - 1) P gf (#[.func (.yield l) #[] #[]] ++ lb) W fun e W' => (∃ v, e = .returned v) ∧ ∃ k A, J' k A ∧ R k A W')
    (hround : ∀ (l k : Nat) (A : World), w.heap.size < l → l < A.heap.size → J k A → k < N →
      assign.wpIn (Fence.wide.inRound l) (m - 1 - 1) P (Exit.then (fun a₁ W₁ => KeepsFrom w.heap.size A W₁ ∧
          ∀ r, body.wpIn (Fence.wide.inRound l) (m - 1 - 1) P (rdE w.heap.size (W₁.putObj l (.loop r)) (J (k + 1))) a₁ (W₁.putObj l (.loop r))) (fun _ _ _ => False))
        { tmps := (ps.zip (encs k)).foldl (fun t (p, v) => t.setIfInBounds p v) a.tmps, defers := [] } A)
    (hdone : ∀ (k : Nat) (A B : World) (r : Loop), J k A → R k A B → w.heap.size + 1 < A.heap.size → B.heap[w.heap.size]? = some (.deferred (some [])) →
      Q .normal { a with defers := { target := .collected w.heap.size, args := #[] } :: a.defers } (B.putObj (w.heap.size + 1) (.loop r))) :
    (Code.rangeFunc g ps assign body).wpIn Fence.wide m P Q a w := by
  refine wpIn_rangeFunc ?_
  intro fn hfn
  rw [show Fence.wide.round = none from rfl]
  obtain ⟨rec, hrec⟩ : ∃ rec : LoopState → Option Code → Loop, rec = fun st pe => { state := st, pending := pe, fn, tmps := a.tmps, params := ps, assign, body, defers := w.heap.size } := ⟨_, rfl⟩
  obtain ⟨W1, hW1⟩ : ∃ W1, (w.alloc (.deferred (some []))).alloc (.loop (rec .ready none)) = W1 := ⟨_, rfl⟩
  have hL1 : W1.heap[w.heap.size + 1]? = some (.loop (rec .ready none)) := by
    rw [← hW1]; have := World.alloc_heap_new (w.alloc (.deferred (some []))) (.loop (rec .ready none)); rwa [World.size_alloc] at this
  have hK1 : W1.heap[w.heap.size]? = some (.deferred (some [])) := by
    rw [← hW1]; exact (Below.heap_alloc _ _ _ (by simp)).trans (World.alloc_heap_new w _)
  have hb1 : Below w.heap.size w W1 := by
    rw [← hW1]; exact ((Below.refl _ w).alloc (Nat.le_refl _) _).alloc (by simp) _
  refine ⟨w.heap.size + 1, [{ target := .collected w.heap.size, args := #[] }], W1, { target := .fn (.func gf) lb, args := #[.func (.yield (w.heap.size + 1)) #[] #[]] }, W1, gf,
    #[.func (.yield (w.heap.size + 1)) #[] #[]] ++ lb, W1, ?_, ?_, ?_, ?_, fun h => by simp [Fence.wide] at h, ?_⟩
  · rw [← hW1, hrec]; exact run_enterLoop_outer _ _ _ _ _
  · simp only [resolve, hg]
    simp [go_sem]
  · intro f' hf'; exact trivial
  · simp [invoke, go_sem, eg]
  · refine (hcall (w.heap.size + 1)
      (fun k W => J k W ∧ W.heap[w.heap.size + 1]? = some (.loop (rec .ready none)) ∧ W.heap[w.heap.size]? = some (.deferred (some []))) W1
      (fun k A h => h.1) ?_ ?_ ⟨hJ 0 w W1 h0 hb1, hL1, hK1⟩).mono ?_
    · rintro k A B ⟨hj, hl, hk⟩ hb
      have hlt := (Array.getElem?_eq_some_iff.1 hl).1
      exact ⟨hJ k A B hj (hb.mono (by omega)), (hb.block _ hlt).trans hl, (hb.block _ (by omega)).trans hk⟩
    · rintro k A ⟨hj, hl, hk⟩ hkN
      have hlt := (Array.getElem?_eq_some_iff.1 hl).1
      have hy := run_yield (P := P) (args := encs k) hl (by rw [hrec]; exact hps k)
      rw [hrec] at hy
      refine ⟨fn, _, assign, body, hy, roundIn_of_wpIn hfn (wpIn_mono (hround (w.heap.size + 1) k A (by omega) hlt hj hkN) ?_)⟩
      clear hy
      rintro e a₁ Wa hp
      cases e with
      | normal =>
        obtain ⟨hkf, hbody⟩ := hp
        have hl' := hkf.same _ _ (by omega) hl rfl
        have hk' := hkf.same _ _ (Nat.le_refl _) hk rfl
        have hlt' : w.heap.size + 1 < Wa.heap.size := (Array.getElem?_eq_some_iff.1 hl').1
        refine ⟨_, run_beginRound hl' (by rw [hrec]), ?_⟩
        have hl2 : (Wa.putObj (w.heap.size + 1) (.loop { rec .ready none with state := .busy })).heap[w.heap.size + 1]? = some (.loop { rec .ready none with state := .busy }) := World.putObj_heap_same hlt'
        have hk2 : (Wa.putObj (w.heap.size + 1) (.loop { rec .ready none with state := .busy })).heap[w.heap.size]? = some (.deferred (some [])) := (World.putObj_heap_other (by omega)).trans hk'
        refine wpIn_mono (hbody _) ?_
        rintro e a3 W3 hp
        cases e with
        | normal =>
          obtain ⟨hk3, hj3⟩ := hp
          have hl3 := hk3.same _ _ (by omega) hl2 rfl
          have hr := run_endRound (P := P) none hl3
          refine ⟨_, _, hr, rfl, hJ _ _ _ hj3 (put_below _ (by omega)), ?_, ?_⟩
          · rw [World.putObj_heap_same (Array.getElem?_eq_some_iff.1 hl3).1, hrec]; rfl
          · exact (World.putObj_heap_other (by omega)).trans (hk3.same _ _ (Nat.le_refl _) hk2 rfl)
        | _ => exact hp.elim
      | _ => exact hp.elim
    · rintro e W2 ⟨⟨v, rfl⟩, k, A, ⟨hj, hl, hk⟩, hr⟩
      have hkf := hR k A W2 hj hr
      have hl' := hkf.same _ _ (by omega) hl rfl
      have := run_endLoop (P := P) hl' (by rw [hrec]; simp)
      rw [hrec] at this
      exact ⟨none, _, this, hdone k A W2 _ hj hr (Array.getElem?_eq_some_iff.1 hl).1 (hkf.same _ _ (Nat.le_refl _) hk rfl)⟩
end Go.Proofs.Ytodbbacmdjcheaa.RF
namespace Go.Proofs.Ytodbbacmdjcheaa
open Go.RowKit
def u8 (x : UInt8) : Value := .int .u8 x.toNat
def Byts (w : World) (v : Value) (l : List UInt8) : Prop := Rd w 1 v l.length (l.map u8)
def OwnB (w : World) (base E : Nat) (v : Value) (l : List UInt8) : Prop := w.ownsRow base E 1 v l.length (l.map u8)
theorem one_u8 : (Try.prog.info? 5).map (·.size) = some 1 := by kernel_rfl
section
variable {P : Program} {w w' : World} {v : Value} {l : List UInt8} {base E : Nat}
theorem OwnB.rd (h : OwnB w base E v l) : Byts w v l := Rd.of_own h
theorem Byts.below (h : Byts w v l) (hb : Below w.heap.size w w') : Byts w' v l := Rd.below h hb
theorem Byts.alloc (h : Byts w v l) (o : Obj) : Byts (w.alloc o) v l := Rd.alloc h o
theorem OwnB.below (h : OwnB w base E v l) (hb : Below w.heap.size w w') : OwnB w' base E v l := own_below h hb
theorem OwnB.nil (w : World) (base E : Nat) : OwnB w base E (.slice none 0 0) [] := World.ownsRow_nil w base E 1
theorem Byts.nil (w : World) : Byts w (.slice none 0 0) [] := Rd.nil w 1
theorem OwnB.of {n : Nat} {xs : List Value} (h : w.ownsRow base E 1 v n xs) (hx : xs = l.map u8) : OwnB w base E v l := by
  subst hx
  have hn : n = l.length := by have := h.1; simp at this; omega
  subst hn; exact h
theorem Byts.at_ {t e : TypeId} (h : Byts w v l) (ht : P.underlying t = some (.slice e)) (hi : (P.info? e).map (·.size) = some 1) {k : Nat} (hk : k < l.length) :
    ∃ ad x, (∀ W, (Instr.indexAt t v (.int .i64 (k : Int))).run P W = .ok (.pointer (some ad)) W) ∧ w.cell? ad = some (.int .u8 (UInt8.toNat x)) ∧ Hid (l[k]? = some x) :=
  ⟨_, l[k], fun W => Rd.ixN h ht hi hk W, by rw [Nat.mul_one]; exact Rd.cell h (by simp [hk]; rfl), by unfold Hid; simp [hk]⟩
/-- a literal of bytes -/
theorem lit_byts {w : World} {cs : Array Value} {e n m : Nat} (l : List UInt8) (hn : w.heap.size = n) (h : cs.toList = l.map u8) (hm : m = l.length) (hl : l.length ≤ 1048576) : Byts (w.alloc (.cells cs e)) (.slice (some ⟨n, 0, none⟩) m m) l := by
  subst hn
  have hs : cs.size = m := by rw [← Array.length_toList, h]; simp [hm]
  have := lit_rdN (w := w) (e := e) hs (by omega)
  rw [h] at this
  subst hm; exact this
theorem Byts.str {src dst e : TypeId} (h : Byts w v l) (hs : P.underlying src = some (.slice e)) (he : P.underlying e = some (.int .u8)) (hd : P.underlying dst = some .string) :
    (convert src dst v).run P w = .ok (.string ⟨l.toArray⟩) w := by
  rcases Nat.eq_zero_or_pos l.length with h0 | h0
  · obtain ⟨A, c, rfl, h1, h2, h3, h4, h5⟩ := h
    have hl : l = [] := List.eq_nil_of_length_eq_zero h0
    subst hl
    cases A with
    | none => exact run_convert_bytes_nil w src e hs he _ _ dst hd
    | some ad =>
      rw [run_convert_bytes_string w src dst e _ _ c hs he hd]
      have := run_bytesToString (P := P) w ad 0 c [] (by
        have := run_loadCells_list (P := P) w ad [] (fun j v hj => by simp at hj)
        simpa using this)
      simp only [List.foldl_nil] at this
      exact this
  · obtain ⟨b, o, c, rfl, hb, hc, hcell⟩ := Rd.form h h0
    have := run_convert_bytes_arg (P := P) w src e hs he b o l.length c (l.map fun x => (x.toNat : Int)) (by simp) (fun i hi => by
      rw [hcell i (.int .u8 (l[i].toNat : Int)) (by simp [hi]; rfl)]
      simp [List.getD_eq_getElem?_getD, hi]) dst hd
    rw [this]
    unfold strOfNums
    rw [List.map_map]
    congr 3
    have : ((fun n : Int => UInt8.ofNat n.toNat) ∘ fun x : UInt8 => (x.toNat : Int)) = id := by
      funext x; simp
    rw [this, List.map_id]
end
end Go.Proofs.Ytodbbacmdjcheaa
namespace Go.Proofs.Ytodbbacmdjcheaa
open Go.RowKit
theorem wrap_u64 (n : Int) : IntKind.u64.wrap n = n % 18446744073709551616 := by
  simp [IntKind.wrap, IntKind.signed, IntKind.bits]
theorem toNat_lt (a : UInt64) : a.toNat < 18446744073709551616 := a.toNat_lt
theorem bits_xor_u64n {a b : Nat} (ha : a < 18446744073709551616) (hb : b < 18446744073709551616) : bits .xor .u64 (a : Int) (b : Int) = ((a ^^^ b : Nat) : Int) := by
  show IntKind.u64.wrap ((BitVec.ofInt 64 (a : Int) ^^^ BitVec.ofInt 64 (b : Int)).toNat : Int) = _
  rw [BitVec.toNat_xor, BitVec.ofInt_natCast, BitVec.ofInt_natCast, BitVec.toNat_ofNat, BitVec.toNat_ofNat, Nat.mod_eq_of_lt ha, Nat.mod_eq_of_lt hb, wrap_u64]
  have : a ^^^ b < 2 ^ 64 := Nat.xor_lt_two_pow (by omega) (by omega)
  omega
theorem bits_or_u64n {a b : Nat} (ha : a < 18446744073709551616) (hb : b < 18446744073709551616) : bits .or .u64 (a : Int) (b : Int) = ((a ||| b : Nat) : Int) := by
  show IntKind.u64.wrap ((BitVec.ofInt 64 (a : Int) ||| BitVec.ofInt 64 (b : Int)).toNat : Int) = _
  rw [BitVec.toNat_or, BitVec.ofInt_natCast, BitVec.ofInt_natCast, BitVec.toNat_ofNat, BitVec.toNat_ofNat, Nat.mod_eq_of_lt ha, Nat.mod_eq_of_lt hb, wrap_u64]
  have : a ||| b < 2 ^ 64 := Nat.or_lt_two_pow (by omega) (by omega)
  omega
theorem bits_and_u64n {a b : Nat} (ha : a < 18446744073709551616) (hb : b < 18446744073709551616) : bits .and .u64 (a : Int) (b : Int) = ((a &&& b : Nat) : Int) := by
  show IntKind.u64.wrap ((BitVec.ofInt 64 (a : Int) &&& BitVec.ofInt 64 (b : Int)).toNat : Int) = _
  rw [BitVec.toNat_and, BitVec.ofInt_natCast, BitVec.ofInt_natCast, BitVec.toNat_ofNat, BitVec.toNat_ofNat, Nat.mod_eq_of_lt ha, Nat.mod_eq_of_lt hb, wrap_u64]
  have : a &&& b < 2 ^ 64 := Nat.and_lt_two_pow _ (by omega)
  omega
/-- 'or' of parts that lie apart is their sum; 'and' with a mask is a remainder. -/
theorem or_int {a b : Int} (k : Nat) (c : Nat) (h0 : 0 ≤ a) (ha : a < ((2 ^ k : Nat) : Int)) (hb : b = ((2 ^ k * c : Nat) : Int)) (hk : a < 18446744073709551616) (hl : b < 18446744073709551616) : bits .or .u64 a b = a + b := by
  obtain ⟨n, rfl⟩ := Int.eq_ofNat_of_zero_le h0
  subst hb
  have hn : n < 2 ^ k := by exact_mod_cast ha
  rw [bits_or_u64n (by omega) (by omega), Nat.or_comm, ← Nat.two_pow_add_eq_or_of_lt hn]
  omega
theorem and_int {a : Int} (k : Nat) (h0 : 0 ≤ a) (ha : a < 18446744073709551616) (m : Int) (hm : m = ((2 ^ k - 1 : Nat) : Int)) (hl : m < 18446744073709551616) : bits .and .u64 a m = a % ((2 ^ k : Nat) : Int) := by
  obtain ⟨n, rfl⟩ := Int.eq_ofNat_of_zero_le h0
  subst hm
  rw [bits_and_u64n (by omega) (by omega), Nat.and_two_pow_sub_one_eq_mod]
  exact Int.natCast_emod n (2 ^ k)
end Go.Proofs.Ytodbbacmdjcheaa
namespace Go.Proofs.Ytodbbacmdjcheaa
open Go.RowKit L05
/-- The eight bytes of a word, as an array. -/
def bytesV (x : UInt64) : Array Value := #[.int .u8 (x.toNat % 256), .int .u8 (x.toNat / 256 % 256), .int .u8 (x.toNat / 65536 % 256), .int .u8 (x.toNat / 16777216 % 256), .int .u8 (x.toNat / 4294967296 % 256),
  .int .u8 (x.toNat / 1099511627776 % 256), .int .u8 (x.toNat / 281474976710656 % 256), .int .u8 (x.toNat / 72057594037927936)]
set_option maxHeartbeats 1000000 in
theorem Bytes_any (x : UInt64) (w : World) : Calls Try.prog 100 #[.int .u64 x.toNat] w fun e w' => e = .returned (.agg (bytesV x)) ∧ Below w.heap.size w w' := by
  have hx := toNat_lt x
  go_enter Try.func100, Try.ntmps100
  go_wp2
  refine wp_loop_rounds 9 ?_
  iterate 9 (rw [rounds_succ]; go_wp2)
  refine bodyPost_ret (v := .agg (bytesV x)) ?_ rfl ⟨rfl, ?_⟩
  · simp [results, Try.results100, go_sem, bytesV]
  · exact (((Below.refl _ _).alloc (Nat.le_refl _) _).alloc (by simp) _)
theorem bytesV_ix0 (x : UInt64) (W : World) : (Instr.index 181 (.agg (bytesV x)) (.int .i64 ((0 : Nat) : Int))).run Try.prog W = .ok (.int .u8 ((x.toNat : Int) % 256)) W := by kernel_rfl
theorem bytesV_ix1 (x : UInt64) (W : World) : (Instr.index 181 (.agg (bytesV x)) (.int .i64 ((1 : Nat) : Int))).run Try.prog W = .ok (.int .u8 ((x.toNat : Int) / 256 % 256)) W := by kernel_rfl
theorem bytesV_ix2 (x : UInt64) (W : World) : (Instr.index 181 (.agg (bytesV x)) (.int .i64 ((2 : Nat) : Int))).run Try.prog W = .ok (.int .u8 ((x.toNat : Int) / 65536 % 256)) W := by kernel_rfl
theorem bytesV_ix3 (x : UInt64) (W : World) : (Instr.index 181 (.agg (bytesV x)) (.int .i64 ((3 : Nat) : Int))).run Try.prog W = .ok (.int .u8 ((x.toNat : Int) / 16777216 % 256)) W := by kernel_rfl
theorem bytesV_ix4 (x : UInt64) (W : World) : (Instr.index 181 (.agg (bytesV x)) (.int .i64 ((4 : Nat) : Int))).run Try.prog W = .ok (.int .u8 ((x.toNat : Int) / 4294967296 % 256)) W := by kernel_rfl
theorem bytesV_ix5 (x : UInt64) (W : World) : (Instr.index 181 (.agg (bytesV x)) (.int .i64 ((5 : Nat) : Int))).run Try.prog W = .ok (.int .u8 ((x.toNat : Int) / 1099511627776 % 256)) W := by kernel_rfl
theorem bytesV_ix6 (x : UInt64) (W : World) : (Instr.index 181 (.agg (bytesV x)) (.int .i64 ((6 : Nat) : Int))).run Try.prog W = .ok (.int .u8 ((x.toNat : Int) / 281474976710656 % 256)) W := by kernel_rfl
theorem bytesV_ix7 (x : UInt64) (W : World) : (Instr.index 181 (.agg (bytesV x)) (.int .i64 ((7 : Nat) : Int))).run Try.prog W = .ok (.int .u8 ((x.toNat : Int) / 72057594037927936)) W := by kernel_rfl
theorem bytesV_ix (x : UInt64) {k : Nat} (hk : k < 8) (W : World) : (Instr.index 181 (.agg (bytesV x)) (.int .i64 (k : Int))).run Try.prog W = .ok (.int .u8 ((byteAt x k).toNat : Int)) W := by
  rw [byteAt_nat]
  have hx := toNat_lt x
  match k, hk with
  | 0, _ => rw [bytesV_ix0]; exact congrArg (fun n => Result.ok (Value.int .u8 n) W) (by simp only [show (256 : Nat) ^ 0 = 1 from rfl]; omega)
  | 1, _ => rw [bytesV_ix1]; exact congrArg (fun n => Result.ok (Value.int .u8 n) W) (by simp only [show (256 : Nat) ^ 1 = 256 from rfl]; omega)
  | 2, _ => rw [bytesV_ix2]; exact congrArg (fun n => Result.ok (Value.int .u8 n) W) (by simp only [show (256 : Nat) ^ 2 = 65536 from rfl]; omega)
  | 3, _ => rw [bytesV_ix3]; exact congrArg (fun n => Result.ok (Value.int .u8 n) W) (by simp only [show (256 : Nat) ^ 3 = 16777216 from rfl]; omega)
  | 4, _ => rw [bytesV_ix4]; exact congrArg (fun n => Result.ok (Value.int .u8 n) W) (by simp only [show (256 : Nat) ^ 4 = 4294967296 from rfl]; omega)
  | 5, _ => rw [bytesV_ix5]; exact congrArg (fun n => Result.ok (Value.int .u8 n) W) (by simp only [show (256 : Nat) ^ 5 = 1099511627776 from rfl]; omega)
  | 6, _ => rw [bytesV_ix6]; exact congrArg (fun n => Result.ok (Value.int .u8 n) W) (by simp only [show (256 : Nat) ^ 6 = 281474976710656 from rfl]; omega)
  | 7, _ => rw [bytesV_ix7]; exact congrArg (fun n => Result.ok (Value.int .u8 n) W) (by simp only [show (256 : Nat) ^ 7 = 72057594037927936 from rfl]; omega)
theorem fnv_walk (s : UInt64) (q : UInt8) : IntKind.u64.wrap (bits .xor .u64 (s.toNat : Int) (IntKind.u64.wrap (q.toNat : Int)) * 1099511628211) = ((fnv s q).toNat : Int) := by
  have hq := q.toNat_lt
  rw [wrap_u64 (q.toNat : Int), show (q.toNat : Int) % 18446744073709551616 = (q.toNat : Int) by omega, bits_xor_u64n (toNat_lt s) (by omega), wrap_u64, fnv_nat]
  omega
set_option maxHeartbeats 1000000 in
theorem Next_any (s : UInt64) (v : Value) (l : List UInt64) (w : World) (h : Words w v l) (hl : l.length ≤ 2048) :
    Calls Try.prog 89 #[.int .u64 s.toNat, v] w fun e w' => e = .returned (.tuple #[.int .u64 (behind s l).toNat, .int .i64 0]) ∧ Below w.heap.size w w' := by
  have l1 := Rd.len h Try.underlying25
  obtain ⟨N, hN⟩ : ∃ N, N = l.length := ⟨_, rfl⟩
  rw [← hN] at l1 hl
  have HN := Lib.hid hN; have H := Lib.hid h; have B : Below w.heap.size w w := Below.refl _ _
  clear hN h
  go_enter Try.func89, Try.ntmps89
  go_wp2
  go_loopw [0, 15] (fun st i wr => ∃ k : Nat, k ≤ N ∧ i = .int .i64 k ∧ st = .int .u64 (behind s (l.take k)).toNat ∧ Below w.heap.size w wr) (fun _ i _ => N - (intOf i).toNat)
  case atStart => exact ⟨0, Nat.zero_le _, rfl, rfl, B⟩
  case round =>
    obtain ⟨k, hk, rfl, rfl, hbel⟩ := hrel
    by_cases hlt : k < N
    · obtain ⟨ad, x, ia, ca, hx⟩ := (H.out.below hbel).at_ Try.underlying25 one_u64 (k := k) (by have := HN.out; omega)
      have HB := Lib.hid hbel; clear hbel
      go_wp2_with fail
      refine (Bytes_any _ _).mono ?_
      rintro e w2 ⟨rfl, b⟩
      have B2 := HB.out.trans (b.mono HB.out.size)
      have HB2 := Lib.hid B2; clear b B2
      obtain ⟨s0, hs0⟩ : ∃ s0, s0 = behind s (l.take k) := ⟨_, rfl⟩
      rw [← hs0]
      have HS := Lib.hid hs0; clear hs0
      obtain ⟨V, hV⟩ : ∃ V, V = bytesV x := ⟨_, rfl⟩
      rw [← hV]
      have HV := Lib.hid hV; clear hV
      go_wp2
      go_loop [0, 21] (fun st j => ∃ m : Nat, m ≤ 8 ∧ j = .int .i64 m ∧ st = .int .u64 (wordTo s0 x m).toNat) (fun _ j => 8 - (intOf j).toNat)
      case atStart => exact ⟨0, by omega, rfl, rfl⟩
      case round =>
        obtain ⟨m, hm, rfl, rfl⟩ := hrel
        by_cases hm8 : m < 8
        · have hix := bytesV_ix x hm8
          rw [← HV.out] at hix
          obtain ⟨q, hq⟩ : ∃ q, q = byteAt x m := ⟨_, rfl⟩
          rw [← hq] at hix
          obtain ⟨s1, hs1⟩ : ∃ s1, s1 = wordTo s0 x m := ⟨_, rfl⟩
          rw [← hs1]
          have hstep : wordTo s0 x (m + 1) = fnv s1 q := by rw [wordTo, hs1, hq]
          have HST := Lib.hid hstep; clear hstep hs1 hq
          go_wp2
          go_roundw
          case rel => exact ⟨m + 1, by omega, by go_num, by rw [HST.out, fnv_walk]⟩
          case measure => simp [intOf]; omega
        · obtain rfl : m = 8 := by omega
          go_wp2
          go_roundw
          case rel => exact ⟨k + 1, by omega, by go_num, by rw [behind_take hx.out, ← HS.out]; rfl, HB2.out⟩
          case measure => simp [intOf]; omega
    · obtain rfl : k = N := by omega
      have HB := Lib.hid hbel; clear hbel
      go_wp2
      go_ret2
      refine ⟨by rw [HN.out, List.take_length]; rfl, HB.out⟩
theorem Of_any (v : Value) (l : List UInt64) (w : World) (h : Words w v l) (hl : l.length ≤ 2048) :
    Calls Try.prog 67 #[v] w fun e w' => e = .returned (.tuple #[.int .u64 (sum l).toNat, .int .i64 0]) ∧ Below w.heap.size w w' := by
  have hN := Next_any first v l w h hl
  rw [first_nat] at hN
  have HN := Lib.hid hN; clear hN
  obtain ⟨S, hS⟩ : ∃ S, S = sum l := ⟨_, rfl⟩
  rw [← hS]
  have HS := Lib.hid hS; clear hS
  go_enter Try.func67, Try.ntmps67
  go_wp2_with fail
  refine (HN.out).mono ?_
  rw [show behind first l = S from HS.out.symm]
  rintro e w' ⟨rfl, b⟩
  go_wp2
  go_ret2
  exact ⟨rfl, b⟩
end Go.Proofs.Ytodbbacmdjcheaa
namespace Go.Proofs.Ytodbbacmdjcheaa
open Go.RowKit L02 L05 L13
set_option maxHeartbeats 600000 in
theorem KCheck_any (v : Value) (l : List UInt8) (r : Int) (hr : r = kErr l) (w : World) (h : Byts w v l) : Calls Try.prog 66 #[v] w fun e w' => e = .returned (.int .i64 r) ∧ w = w' := by
  have l1 := Rd.len h Try.underlying69
  obtain ⟨N, hN⟩ : ∃ N, N = l.length := ⟨_, rfl⟩
  rw [← hN] at l1
  have HN := Lib.hid hN; have H := Lib.hid h; have HR := Lib.hid hr; clear hN h hr
  by_cases hbig : 8 < N
  · go_enter Try.func66, Try.ntmps66
    go_wp2
    go_ret
    exact ⟨ret_int (by rw [HR.out, kErr_many (by have := HN.out; omega)]), rfl⟩
  · have hs : N ≤ 8 := by omega
    clear hbig
    go_enter Try.func66, Try.ntmps66
    go_wp2
    go_loop [10] (fun i => ∃ k : Nat, k ≤ N ∧ i = .int .i64 k ∧ Hid (∀ x ∈ l.take k, 1 ≤ x.toNat ∧ x.toNat ≤ 3)) (fun i => N - (intOf i).toNat)
    case atStart => exact ⟨0, Nat.zero_le _, rfl, Lib.hid (by simp)⟩
    case round =>
      obtain ⟨k, hk, rfl, hh⟩ := hrel
      by_cases hlt : k < N
      · obtain ⟨ad, x, ia, ca, hx⟩ := H.out.at_ (P := Try.prog) Try.underlying69 one_u8 (k := k) (by have := HN.out; omega)
        by_cases hg : 1 ≤ x.toNat ∧ x.toNat ≤ 3
        · obtain ⟨h1, h2⟩ := hg
          go_wp2
          go_round
          case rel =>
            refine ⟨k + 1, by omega, by go_num, Lib.hid ?_⟩
            intro y hy
            rw [List.take_add_one, hx.out] at hy
            rcases List.mem_append.1 hy with hy | hy
            · exact hh.out y hy
            · simp at hy; subst hy; exact ⟨h1, h2⟩
          case measure => simp [intOf]; omega
        · have hcase : x.toNat < 1 ∨ 1 ≤ x.toNat ∧ 3 < x.toNat := by omega
          have hb := kErr_bad (by have := HN.out; omega) hx.out hg
          have HB := Lib.hid hb; clear hb hg
          rcases hcase with h1 | ⟨h1, h2⟩
          all_goals
            go_wp2
            go_ret
            exact ⟨ret_int (by rw [HR.out, HB.out]), rfl⟩
      · obtain rfl : k = N := by omega
        go_wp2
        go_ret
        refine ⟨ret_int ?_, rfl⟩
        rw [HR.out, kErr_of (by have := HN.out; omega)]
        have := hh.out
        rw [List.take_of_length_le (by have := HN.out; omega)] at this
        exact this
set_option maxHeartbeats 600000 in
theorem KCheckR_any (v : Value) (l : List UInt8) (r : Int) (hr : r = kErr l) (w : World) (h : Byts w v l) : Calls Try.prog 38 #[v] w fun e w' => e = .returned (.int .i64 r) ∧ w = w' := by
  have l1 := Rd.len h Try.underlying69
  obtain ⟨N, hN⟩ : ∃ N, N = l.length := ⟨_, rfl⟩
  rw [← hN] at l1
  have HN := Lib.hid hN; have H := Lib.hid h; have HR := Lib.hid hr; clear hN h hr
  by_cases hbig : 8 < N
  · go_enter Try.func38, Try.ntmps38
    go_wp2
    go_ret
    exact ⟨ret_int (by rw [HR.out, kErr_many (by have := HN.out; omega)]), rfl⟩
  · have hs : N ≤ 8 := by omega
    clear hbig
    go_enter Try.func38, Try.ntmps38
    go_wp2
    go_loop [3] (fun i => ∃ k : Nat, k ≤ N ∧ i = .int .i64 k ∧ Hid (∀ x ∈ l.take k, 1 ≤ x.toNat ∧ x.toNat ≤ 3)) (fun i => N - (intOf i).toNat)
    case atStart => exact ⟨0, Nat.zero_le _, rfl, Lib.hid (by simp)⟩
    case round =>
      obtain ⟨k, hk, rfl, hh⟩ := hrel
      by_cases hlt : k < N
      · obtain ⟨ad, x, ia, ca, hx⟩ := H.out.at_ (P := Try.prog) Try.underlying69 one_u8 (k := k) (by have := HN.out; omega)
        by_cases hg : 1 ≤ x.toNat ∧ x.toNat ≤ 3
        · obtain ⟨h1, h2⟩ := hg
          have e0 : ((x.toNat : Int) == 0) = false := by rw [beq_eq_false_iff_ne]; omega
          go_wp2
          go_round
          case rel =>
            refine ⟨k + 1, by omega, by go_num, Lib.hid ?_⟩
            intro y hy
            rw [List.take_add_one, hx.out] at hy
            rcases List.mem_append.1 hy with hy | hy
            · exact hh.out y hy
            · simp at hy; subst hy; exact ⟨h1, h2⟩
          case measure => simp [intOf]; omega
        · have hcase : ((x.toNat : Int) == 0) = true ∨ ((x.toNat : Int) == 0) = false ∧ 3 < x.toNat := by
            by_cases h0 : x.toNat = 0
            · exact .inl (by rw [beq_iff_eq]; omega)
            · exact .inr ⟨by rw [beq_eq_false_iff_ne]; omega, by omega⟩
          have hb := kErr_bad (by have := HN.out; omega) hx.out hg
          have HB := Lib.hid hb; clear hb hg
          rcases hcase with h1 | ⟨h1, h2⟩
          all_goals
            go_wp2
            go_ret
            exact ⟨ret_int (by rw [HR.out, HB.out]), rfl⟩
      · obtain rfl : k = N := by omega
        go_wp2
        go_ret
        refine ⟨ret_int ?_, rfl⟩
        rw [HR.out, kErr_of (by have := HN.out; omega)]
        have := hh.out
        rw [List.take_of_length_le (by have := HN.out; omega)] at this
        exact this
theorem kErr_len {l : List UInt8} (h : kErr l = 0) : l.length ≤ 8 := (kErr_ok h).1
end Go.Proofs.Ytodbbacmdjcheaa

namespace Go.Proofs.Ytodbbacmdjcheaa
open Go.RowKit L02 L05 L13
theorem Of_r (v : Value) (l : List UInt64) (x : UInt64) (hx : x = sum l) (w : World) (h : Words w v l) (hl : l.length ≤ 2048) :
    Calls Try.prog 67 #[v] w fun e w' => e = .returned (.tuple #[.int .u64 x.toNat, .int .i64 0]) ∧ Below w.heap.size w w' := by
  subst hx; exact Of_any v l w h hl
theorem lit_word {w : World} {e n : Nat} (x : UInt64) (hn : w.heap.size = n) : Words (w.alloc (.cells #[.int .u64 x.toNat] e)) (.slice (some ⟨n, 0, none⟩) 1 1) [x] := by
  subst hn; exact lit_words [x] rfl rfl (by simp)
theorem or_digit {l : List UInt8} {k z N : Nat} {x : UInt8} (h0 : kErr l = 0) (hN : N = l.length) (hx : l[k]? = some x) (hz : z = fN (l.take k) * 256 + N) :
    bits .or .u64 (z : Int) (IntKind.u64.wrap ((x.toNat : Int) * 2 ^ (8 + 2 * k))) = ((fN (l.take (k + 1)) * 256 + N : Nat) : Int) := by
  obtain ⟨h1, h2⟩ := kErr_ok h0
  have hk : k < l.length := (List.getElem?_eq_some_iff.1 hx).1
  have hlt := fN_lt (l.take k) fun y hy => (h2 y (List.mem_of_mem_take hy)).2
  rw [List.length_take, Nat.min_eq_left (by omega)] at hlt
  have e4 : (2 : Nat) ^ (8 + 2 * k) = 4 ^ k * 256 := by rw [Nat.pow_add, Nat.pow_mul, Nat.mul_comm]
  have hp : 4 ^ k ≤ 4 ^ 8 := Nat.pow_le_pow_right (by omega) (by omega)
  have hx3 := (h2 x (List.mem_of_getElem? hx)).2
  have e1 : ((x.toNat : Int) * 2 ^ (8 + 2 * k)) = ((2 ^ (8 + 2 * k) * x.toNat : Nat) : Int) := by
    rw [Int.natCast_mul, Int.natCast_pow, Int.mul_comm]; rfl
  have hb : 2 ^ (8 + 2 * k) * x.toNat ≤ 4 ^ 8 * 256 * 3 := by
    rw [e4]; exact Nat.mul_le_mul (Nat.mul_le_mul_right _ hp) hx3
  simp only [show (4 : Nat) ^ 8 = 65536 from rfl] at hb hp
  have hzl : z < 2 ^ (8 + 2 * k) := by rw [e4]; omega
  have ew : IntKind.u64.wrap ((2 ^ (8 + 2 * k) * x.toNat : Nat) : Int) = ((2 ^ (8 + 2 * k) * x.toNat : Nat) : Int) := by
    rw [wrap_u64]
    generalize 2 ^ (8 + 2 * k) * x.toNat = q at hb
    omega
  rw [e1, ew, or_int (8 + 2 * k) x.toNat (by omega) (by exact_mod_cast hzl) rfl (by omega) (by generalize 2 ^ (8 + 2 * k) * x.toNat = q at hb; omega)]
  rw [fN_take hx, hz, e4]
  have : 4 ^ k * 256 * x.toNat = x.toNat * 4 ^ k * 256 := by rw [Nat.mul_comm, Nat.mul_assoc]
  omega
set_option maxHeartbeats 1000000 in
theorem KWrite_any (v : Value) (l : List UInt8) (a b : UInt64) (r : Int) (ha : a = w0 l) (hb : b = w1 l) (hr : r = kErr l) (w : World) (h : Byts w v l) :
    Calls Try.prog 34 #[v] w fun e w' => e = .returned (.tuple #[.agg #[.int .u64 a.toNat, .int .u64 b.toNat], .int .i64 r]) ∧ Below w.heap.size w w' := by
  have B : Below w.heap.size w w := Below.refl _ _
  have l1 := Rd.len h Try.underlying69
  obtain ⟨N, hN⟩ : ∃ N, N = l.length := ⟨_, rfl⟩
  rw [← hN] at l1
  have CT := fun w h => KCheck_any v l r hr w h
  have HC := Lib.hid CT; have H := Lib.hid h; clear CT h
  by_cases h0 : kErr l = 0
  · have hs : N ≤ 8 := by rw [hN]; exact kErr_len h0
    rw [h0] at hr
    subst hr
    have HN := Lib.hid hN; have H0 := Lib.hid h0
    have an : a.toNat = firstN l := by rw [ha]; exact w0_nat h0
    have hb' : b = sum [a] := by rw [hb, w1, if_pos h0, ha]
    have HAN := Lib.hid an; have HB := Lib.hid hb'
    clear hN h0 ha hb an hb'
    go_enter Try.func34, Try.ntmps34
    go_upto_region 1 with (fail)
    refine wp_gen (fun Wv => Bx Wv (w.heap.size) (76) (#[.int .u64 0, .int .u64 0]) ∧ Below w.heap.size w Wv) ⟨((Bx.at_ (by simp))), ((Below.refl _ w).alloc (by simp <;> omega) _)⟩ ?_
    rintro w' ⟨g2, b⟩
    replace B := B.trans (b.mono B.size); clear b
    have c_g2 := g2.cell; have f_g2 := g2.free; have a_g2 := fun o => (g2.alloc o).cell; have d_g2 := fun o o2 => ((g2.alloc o).alloc o2).cell; have e_g2 := fun o => (g2.alloc o).free
    go_wp2_with fail
    refine (HC.out _ (H.out.below B)).mono ?_
    rintro e w2 ⟨rfl, rfl⟩
    obtain ⟨w3, hw3⟩ : ∃ w3, w3 = w' := ⟨_, rfl⟩
    subst hw3
    go_wp2
    have HG := Lib.hid g2; have HBB := Lib.hid B; have HL := Lib.hid (H.out.below B)
    clear c_g2 f_g2 a_g2 d_g2 e_g2 g2 B
    go_loop [5, 21] (fun y i => ∃ k z : Nat, k ≤ N ∧ i = .int .i64 k ∧ y = .int .u64 (z : Int) ∧ Hid (z = fN (l.take k) * 256 + N)) (fun _ i => N - (intOf i).toNat)
    case atStart => exact ⟨0, N, Nat.zero_le _, rfl, by simp, Lib.hid (by simp [fN])⟩
    case round =>
      obtain ⟨k, z, hk, rfl, rfl, hz⟩ := hrel
      by_cases hlt : k < N
      · obtain ⟨ad, x, ia, ca, hx⟩ := HL.out.at_ (P := Try.prog) Try.underlying69 one_u8 (k := k) (by have := HN.out; omega)
        have hxl := x.toNat_lt
        go_wp2
        refine ⟨⟨k + 1, fN (l.take (k + 1)) * 256 + N, by omega, by go_num, ?_, Lib.hid rfl⟩, ?_⟩
        · rw [or_digit H0.out HN.out hx.out hz.out]
        · simp [intOf]; omega
      · obtain rfl : k = N := by omega
        have hza : z = a.toNat := by rw [hz.out, HAN.out, firstN, HN.out, List.take_length]
        subst hza
        have OT := fun v w h => Of_r v [a] b HB.out w h (by simp)
        have HO := Lib.hid OT; clear OT
        go_wp2_with fail
        refine (HO.out _ _ (lit_word a rfl)).mono ?_
        rintro e w4 ⟨rfl, bb⟩
        have g2 := HG.out.below ((Below.refl _ _).alloc (Nat.le_refl _) (.cells #[.int .u64 a.toNat] 64))
        replace g2 := g2.below bb
        have B := (HBB.out.alloc HBB.out.size (.cells #[.int .u64 a.toNat] 64)).trans (bb.mono (Nat.le_trans HBB.out.size (by simp)))
        have k2 := g2.cell; have l2 := g2.free
        clear bb g2
        go_wp2
        refine bodyPost_ret (v := .tuple #[.agg #[.int .u64 a.toNat, .int .u64 b.toNat], .int .i64 0]) (by simp [results, Try.results34, go_sem, k2, l2]) rfl ⟨rfl, ?_⟩
        (repeat (first | refine Below.setCell ?_ (by first | exact Nat.le_refl _ | (simp <;> omega)) _ | refine Below.alloc ?_ (by first | exact B.size | (have := B.size; simp <;> omega)) _)); exact B
  · have hne : (r != 0) = true := by rw [bne_iff_ne, hr]; exact h0
    have ha0 : a = 0 := by rw [ha, w0, if_neg h0]
    have hb0 : b = 0 := by rw [hb, w1, if_neg h0]
    subst ha0 hb0
    clear ha hb hr h0 hN
    go_enter Try.func34, Try.ntmps34
    go_upto_region 1 with (fail)
    refine wp_gen (fun Wv => Bx Wv (w.heap.size) (76) (#[.int .u64 0, .int .u64 0]) ∧ Below w.heap.size w Wv) ⟨((Bx.at_ (by simp))), ((Below.refl _ w).alloc (by simp <;> omega) _)⟩ ?_
    rintro w' ⟨g2, b⟩
    replace B := B.trans (b.mono B.size); clear b
    have c_g2 := g2.cell; have f_g2 := g2.free; have a_g2 := fun o => (g2.alloc o).cell; have d_g2 := fun o o2 => ((g2.alloc o).alloc o2).cell; have e_g2 := fun o => (g2.alloc o).free
    go_wp2_with fail
    refine (HC.out _ (H.out.below B)).mono ?_
    rintro e w2 ⟨rfl, rfl⟩
    go_wp2
    refine bodyPost_ret (v := .tuple #[.agg #[.int .u64 0, .int .u64 0], .int .i64 r]) (by simp [results, Try.results34, go_sem, c_g2, f_g2, a_g2, e_g2]) rfl ?_
    refine ⟨rfl, ?_⟩
    (repeat (first | refine Below.setCell ?_ (by first | exact Nat.le_refl _ | (simp <;> omega)) _ | refine Below.alloc ?_ (by first | exact B.size | (have := B.size; simp <;> omega)) _)); exact B
end Go.Proofs.Ytodbbacmdjcheaa
namespace Go.Proofs.Ytodbbacmdjcheaa
open Go.RowKit
section
variable {P : Program}
theorem run_eqItems_words (d : Nat) {e : TypeId} (he : P.underlying e = some (.int .u64)) (hp : ∀ (X : Array Value) (j : Nat) (u : Value) (w : World), X[j]? = some u → (part e X j).run P w = .ok u w) :
    ∀ (m k : Nat) (l1 l2 : List UInt64) (w : World), k + m ≤ l1.length → k + m ≤ l2.length →
    (Op.eqItems (d + 1) e 1 (l1.map u64).toArray (l2.map u64).toArray (List.range' k m)).run P w = .ok (decide ((l1.drop k).take m = (l2.drop k).take m)) w
  | 0, k, l1, l2, w, _, _ => by simp [Op.eqItems]
  | m + 1, k, l1, l2, w, h1, h2 => by
    have e1 : (l1.map u64).toArray[k]? = some (u64 (l1[k]'(by omega))) := by simp [show k < l1.length by omega]
    have e2 : (l2.map u64).toArray[k]? = some (u64 (l2[k]'(by omega))) := by simp [show k < l2.length by omega]
    have ih := run_eqItems_words d he hp m (k + 1) l1 l2 w (by omega) (by omega)
    rw [List.range'_succ]
    simp only [Op.eqItems, Nat.mul_one, Sem.run_bind, hp _ _ _ _ e1, hp _ _ _ _ e2, Result.andThen_ok]
    rw [show (Op.equalIn (d + 1) e (u64 (l1[k]'(by omega))) (u64 (l2[k]'(by omega)))).run P w = .ok (((l1[k]'(by omega)).toNat : Int) == ((l2[k]'(by omega)).toNat : Int)) w from run_equalIn_int w d e .u64 .u64 _ _ he]
    rw [List.drop_eq_getElem_cons (show k < l1.length by omega), List.drop_eq_getElem_cons (show k < l2.length by omega), List.take_succ_cons, List.take_succ_cons]
    by_cases hx : l1[k]'(by omega) = l2[k]'(by omega)
    · have t1 : (((l1[k]'(by omega)).toNat : Int) == ((l2[k]'(by omega)).toNat : Int)) = true := by rw [hx]; simp
      rw [t1]
      simp only [Result.andThen_ok, Bool.not_true, Bool.false_eq_true, if_false]
      rw [ih, hx]
      simp
    · have t1 : (((l1[k]'(by omega)).toNat : Int) == ((l2[k]'(by omega)).toNat : Int)) = false := by
        rw [beq_eq_false_iff_ne]; intro h; exact hx (UInt64.toNat_inj.1 (by omega))
      rw [t1]
      simp [hx]
theorem run_neq_words {t e : TypeId} {n : Nat} (ht : P.underlying t = some (.array n e)) (hi : (P.info? e).isSome = true) (he : P.underlying e = some (.int .u64)) (hc : P.cellsOf e = 1)
    (hp : ∀ (X : Array Value) (j : Nat) (u : Value) (w : World), X[j]? = some u → (part e X j).run P w = .ok u w)
    (l1 l2 : List UInt64) (h1 : l1.length = n) (h2 : l2.length = n) (w : World) : (binOp .neq t (.agg (l1.map u64).toArray) (.agg (l2.map u64).toArray)).run P w = .ok (.bool (!decide (l1 = l2))) w := by
  obtain ⟨i, hi⟩ := Option.isSome_iff_exists.1 hi
  rw [run_neq_struct, run_equalIn_array (w := w) 9999 _ _ ht hi, hc, List.range_eq_range', run_eqItems_words 9998 he hp n 0 l1 l2 w (by omega) (by omega)]
  simp only [List.drop_zero, Result.andThen_ok]
  rw [List.take_of_length_le (by omega), List.take_of_length_le (by omega)]
end
end Go.Proofs.Ytodbbacmdjcheaa
namespace Go.Proofs.Ytodbbacmdjcheaa
open Go.RowKit L02 L05 L13
end Go.Proofs.Ytodbbacmdjcheaa
namespace Go.Proofs.Ytodbbacmdjcheaa
open Go.RowKit L02 L05 L13
end Go.Proofs.Ytodbbacmdjcheaa
namespace Go.Proofs.Ytodbbacmdjcheaa
open Go.RowKit L02 L05 L13
/-- A slice of slices of bytes. -/
def Typs (w : World) (v : Value) (L : List (List UInt8)) : Prop := ∃ vs : List Value, vs.length = L.length ∧ Rd w 1 v L.length vs ∧ ∀ (i : Nat) x l, vs[i]? = some x → L[i]? = some l → Byts w x l
/-- .. of the call's own, its rows too. -/
def OwnT (w : World) (base : Nat) (v : Value) (L : List (List UInt8)) : Prop := ∃ vs : List Value, vs.length = L.length ∧ w.ownsRow base 69 1 v L.length vs ∧ ∀ (i : Nat) x l, vs[i]? = some x → L[i]? = some l → OwnB w base 5 x l
theorem OwnT.rd {w : World} {base : Nat} {v : Value} {L : List (List UInt8)} (h : OwnT w base v L) : Typs w v L := by
  obtain ⟨vs, h1, h2, h4⟩ := h; exact ⟨vs, h1, Rd.of_own h2, fun i x l h5 h6 => (h4 i x l h5 h6).rd⟩
theorem Typs.below {w w' : World} {v : Value} {L : List (List UInt8)} (h : Typs w v L) (hb : Below w.heap.size w w') : Typs w' v L := by
  obtain ⟨vs, h1, h2, h3⟩ := h; exact ⟨vs, h1, h2.below hb, fun i x l h4 h5 => (h3 i x l h4 h5).below hb⟩
theorem OwnT.below {w w' : World} {base : Nat} {v : Value} {L : List (List UInt8)} (h : OwnT w base v L) (hb : Below w.heap.size w w') : OwnT w' base v L := by
  obtain ⟨vs, h1, h2, h4⟩ := h; exact ⟨vs, h1, own_below h2 hb, fun i x l h5 h6 => (h4 i x l h5 h6).below hb⟩
theorem OwnT.nil (w : World) (base : Nat) : OwnT w base (.slice none 0 0) [] := ⟨[], rfl, World.ownsRow_nil w base _ 1, fun i x l h => by simp at h⟩
theorem Typs.len {w : World} {v : Value} {L : List (List UInt8)} (h : Typs w v L) : ∀ ty W, (Builtin.len_ #[22] ty #[v]).run Try.prog W = .ok (.int .i64 (L.length : Int)) W := by
  obtain ⟨vs, h1, h2, h3⟩ := h; exact Rd.len h2 Try.underlying22
theorem Typs.len_le {w : World} {v : Value} {L : List (List UInt8)} (h : Typs w v L) : L.length ≤ 9223372036854775807 := by
  obtain ⟨vs, h1, h2, h3⟩ := h; exact Rd.len_le h2
theorem one_bytes : (Try.prog.info? 69).map (·.size) = some 1 := by kernel_rfl
theorem Typs.at_ {w : World} {v : Value} {L : List (List UInt8)} (h : Typs w v L) {k : Nat} (hk : k < L.length) :
    ∃ ad x l, (∀ W, (Instr.indexAt 22 v (.int .i64 (k : Int))).run Try.prog W = .ok (.pointer (some ad)) W) ∧ w.cell? ad = some x ∧ Hid (L[k]? = some l) ∧ Hid (Byts w x l) := by
  obtain ⟨vs, h1, h2, h3⟩ := h
  have hv : vs[k]? = some vs[k] := List.getElem?_eq_getElem (by omega)
  have hl : L[k]? = some L[k] := List.getElem?_eq_getElem hk
  exact ⟨_, vs[k], L[k], fun W => Rd.ixN h2 Try.underlying22 one_bytes hk W, by rw [Nat.mul_one]; exact Rd.cell h2 hv, Lib.hid hl, Lib.hid (h3 k _ _ hv hl)⟩
theorem Byts.oneCell {w : World} {x : Value} {l : List UInt8} (h : Byts w x l) : x.oneCell' = true := by
  obtain ⟨A, c, rfl, _⟩ := h; rfl
end Go.Proofs.Ytodbbacmdjcheaa
namespace Go.Proofs.Ytodbbacmdjcheaa
open Go.RowKit L02 L05 L13
set_option maxHeartbeats 2000000 in
theorem SameT_any (va vb : Value) (La Lb : List (List UInt8)) (r : Bool) (hr : r = decide (La = Lb)) (w : World) (ha : Typs w va La) (hb : Typs w vb Lb) :
    Calls Try.prog 16 #[va, vb] w fun e w' => e = .returned (.bool r) ∧ Below w.heap.size w w' := by
  have B : Below w.heap.size w w := Below.refl _ _
  have la1 := ha.len; have lb1 := hb.len
  have la2 := ha.len_le; have lb2 := hb.len_le
  have HA := Lib.hid ha; have HB := Lib.hid hb; have HR := Lib.hid hr; clear ha hb hr
  obtain ⟨na, hna⟩ : ∃ na, na = La.length := ⟨_, rfl⟩
  obtain ⟨nb, hnb⟩ : ∃ nb, nb = Lb.length := ⟨_, rfl⟩
  rw [← hna] at la1 la2; rw [← hnb] at lb1 lb2
  have Hna := Lib.hid hna; have Hnb := Lib.hid hnb; clear hna hnb
  by_cases hl : na = nb
  · subst hl
    go_enter Try.func16, Try.ntmps16
    go_wp2
    have HBB := Lib.hid B; clear B
    go_loopw [5] (fun i wr => ∃ k : Nat, k ≤ na ∧ i = .int .i64 k ∧ Hid (La.take k = Lb.take k) ∧ Below w.heap.size w wr) (fun i _ => na - (intOf i).toNat)
    case atStart => exact ⟨0, Nat.zero_le _, rfl, Lib.hid rfl, HBB.out⟩
    case round =>
      obtain ⟨k, hk, rfl, heq, B⟩ := hrel
      by_cases hlt : k < na
      · obtain ⟨ad, x, s, ia, m0, hs, hx⟩ := (HA.out.below B).at_ (k := k) (by have := Hna.out; omega)
        obtain ⟨bd, y, t, ib, m1, ht, hy⟩ := (HB.out.below B).at_ (k := k) (by have := Hnb.out; omega)
        have sx := fun z : Fut wr => (hx.out.below z.h).str (P := Try.prog) (dst := 9) Try.underlying69 Try.underlying5 Try.underlying9
        have sy := fun z : Fut wr => (hy.out.below z.h).str (P := Try.prog) (dst := 9) Try.underlying69 Try.underlying5 Try.underlying9
        obtain ⟨c, hc⟩ : ∃ c, c = decide (s = t) := ⟨_, rfl⟩
        have hst : (s == t) = c := by rw [hc, Bool.eq_iff_iff, beq_iff_eq, decide_eq_true_iff]
        have HC := Lib.hid hc; clear hc
        cases c
        · go_wp2
          refine wp_region_calm (by kernel_rfl) (by kernel_rfl) ?_
          have c_m0 := fun x : Fut _ => cell_later x.h m0
          have c_m1 := fun x : Fut _ => cell_later x.h m1
          repeat (go_big_quiet_step (fail))
          refine wpQuiet_nil ?_
          intro _ hw'
          obtain ⟨xq, hw''⟩ := hw'
          subst hw''
          clear c_m0; replace m0 := cell_later xq.h m0
          clear c_m1; replace m1 := cell_later xq.h m1
          replace B := B.trans (xq.h.mono B.size)
          clear sx sy hst
          go_wp2
          go_ret
          refine ⟨ret_bool ?_, B⟩
          have e : ¬ s = t := by have := HC.out; simpa using this
          rw [HR.out, eq_comm, decide_eq_false_iff_not]
          intro hab
          have h1 := hs.out; have h2 := ht.out
          rw [hab, h2] at h1
          injection h1 with h1
          exact e h1.symm
        · go_wp2
          refine wp_region_calm (by kernel_rfl) (by kernel_rfl) ?_
          have c_m0 := fun x : Fut _ => cell_later x.h m0
          have c_m1 := fun x : Fut _ => cell_later x.h m1
          repeat (go_big_quiet_step (fail))
          refine wpQuiet_nil ?_
          intro _ hw'
          obtain ⟨xq, hw''⟩ := hw'
          subst hw''
          clear c_m0; replace m0 := cell_later xq.h m0
          clear c_m1; replace m1 := cell_later xq.h m1
          replace B := B.trans (xq.h.mono B.size)
          clear sx sy hst
          go_wp2
          go_roundw
          case rel =>
            have e : s = t := by have := HC.out; simpa using this
            refine ⟨k + 1, by omega, by go_num, Lib.hid ?_, B⟩
            rw [List.take_add_one, List.take_add_one, heq.out, hs.out, ht.out, e]
          case measure => simp [intOf]; omega
      · obtain rfl : k = na := by omega
        go_wp2
        go_ret
        refine ⟨ret_bool ?_, B⟩
        have h1 := heq.out
        rw [List.take_of_length_le (by have := Hna.out; omega), List.take_of_length_le (by have := Hnb.out; omega)] at h1
        rw [HR.out, h1, decide_eq_true rfl]
  · have hl' : ((na : Int) != nb) = true := by rw [bne_iff_ne]; omega
    go_enter Try.func16, Try.ntmps16
    go_wp2
    go_ret
    refine ⟨ret_bool ?_, B⟩
    rw [HR.out, eq_comm, decide_eq_false_iff_not]
    intro hab
    have h1 := Hna.out; have h2 := Hnb.out
    rw [hab] at h1; omega
end Go.Proofs.Ytodbbacmdjcheaa

namespace Go.Proofs.Ytodbbacmdjcheaa
open Go.RowKit Go.Shelf L02 L05 L13
/-- the first error of types -/
def errT : List (List UInt8) → Int
  | [] => 0
  | l :: T => if kErr l = 0 then errT T else kErr l
theorem errT_take : ∀ (T : List (List UInt8)) (k : Nat) (l : List UInt8), (∀ i l', i < k → T[i]? = some l' → kErr l' = 0) → T[k]? = some l → kErr l ≠ 0 → errT T = kErr l
  | [], k, l, _, h, _ => by simp at h
  | x :: T, 0, l, _, h, h2 => by simp at h; subst h; rw [errT, if_neg h2]
  | x :: T, k + 1, l, h1, h, h2 => by
    rw [errT, if_pos (h1 0 x (by omega) rfl)]
    exact errT_take T k l (fun i l' hi hl => h1 (i + 1) l' (by omega) (by simpa using hl)) (by simpa using h) h2
theorem errT_none : ∀ (T : List (List UInt8)), (∀ i l', i < T.length → T[i]? = some l' → kErr l' = 0) → errT T = 0
  | [], _ => rfl
  | x :: T, h => by
    rw [errT, if_pos (h 0 x (by simp) rfl)]
    exact errT_none T (fun i l' hi hl => h (i + 1) l' (by simp; omega) (by simpa using hl))
/-- what the loop's variables get in round k -/
def encY (T : List (List UInt8)) (k : Nat) : Array Value := #[.int .i64 (96 + 2 * k), .agg #[.int .u64 (w0 (T.getD k [])).toNat, .int .u64 (w1 (T.getD k [])).toNat]]
set_option maxRecDepth 100000 in
set_option maxHeartbeats 4000000 in
theorem wordsT1_any (m l tb eb cb : Nat) (tv : Value) (T : List (List UInt8)) (hT8 : T.length ≤ 1000) (J : Nat → World → Prop)
    (hJ : ∀ k A B, J k A → Below A.heap.size A B → J k B)
    (hJT : ∀ k A, J k A → Typs A tv T ∧ A.cell? ⟨tb, 0, none⟩ = some tv ∧ A.cell? ⟨eb, 0, none⟩ = some (.pointer (some ⟨cb, 0, none⟩)) ∧ A.cell? ⟨cb, 0, none⟩ = some (.int .i64 0) ∧ A.frozen? ⟨cb, 0, none⟩ = false)
    (hY : ∀ k A, J k A → k < T.length → YieldAt Fence.wide m Try.prog l (encY T k) A fun e W' => e = .returned (.bool true) ∧ J (k + 1) W')
    (W : World) (h0 : J 0 W) :
    CallsIn Fence.wide (m + 1) Try.prog 54 #[.func (.yield l) #[] #[], .pointer (some ⟨tb, 0, none⟩), .pointer (some ⟨eb, 0, none⟩)] W fun e W' => (∃ v, e = .returned v) ∧
      ∃ k A, J k A ∧ ((errT T = 0 ∧ k = T.length ∧ W' = A) ∨ (errT T ≠ 0 ∧ W' = A.setCell ⟨cb, 0, none⟩ (.int .i64 (errT T)))) := by
  have HY := Lib.hid hY; have HT := Lib.hid hJT; have HJ := Lib.hid hJ; have H0 := Lib.hid h0
  obtain ⟨t0, ct0, -, -, -⟩ := hJT 0 W h0
  have l1 := t0.len
  have HTT := Lib.hid t0
  obtain ⟨N, hN⟩ : ∃ N, N = T.length := ⟨_, rfl⟩
  rw [← hN] at l1 hT8
  have HN := Lib.hid hN
  clear hY hJT hJ h0 t0 hN
  refine callsIn_of_wp Try.func54 rfl trivial ?_ rfl
  simp only [Try.ntmps54, List.size_toArray, List.length_cons, List.length_nil, Nat.reduceAdd, Nat.reduceSub, Array.replicate_succ, Array.replicate_zero, List.push_toArray, List.append_toArray, List.nil_append, List.cons_append]
  gi_wp2
  gi_loopw [10] (fun i wr => ∃ k : Nat, k ≤ N ∧ i = .int .i64 k ∧ Hid (J k wr) ∧ Hid (∀ i l', i < k → T[i]? = some l' → kErr l' = 0))
    (fun i _ => N - (intOf i).toNat)
  case atStart => exact ⟨0, Nat.zero_le _, rfl, H0, Lib.hid (fun i l' hi => by omega)⟩
  case round =>
    obtain ⟨k, hk, rfl, hJs, hok⟩ := hrel
    by_cases hlt : k < N
    · obtain ⟨tr, ct, ce, cc, fc⟩ := HT.out k wr hJs.out
      obtain ⟨ad, x, tl, hix, hcx, htl, hbx⟩ := tr.at_ (k := k) (by rw [← HN.out]; exact hlt)
      have one := hbx.out.oneCell
      gi_wp2_with fail
      refine ⟨trivial, (callsIn_wide.2 (KWrite_any x tl _ _ (kErr tl) rfl rfl rfl wr hbx.out)).mono ?_⟩
      rintro e w2 ⟨rfl, b⟩
      have J2 := HJ.out k wr w2 hJs.out b
      obtain ⟨-, -, ce2, cc2, fc2⟩ := HT.out k w2 J2
      have tb0 : T.getD k [] = tl := by rw [List.getD_eq_getElem?_getD, htl.out]; rfl
      have hAl := fun o => (Below.refl w2.heap.size w2).alloc (Nat.le_refl _) o
      have HTB := Lib.hid tb0
      by_cases h0 : kErr tl = 0
      · obtain ⟨a, ha⟩ : ∃ a, a = w0 tl := ⟨_, rfl⟩
        obtain ⟨c, hc⟩ : ∃ c, c = w1 tl := ⟨_, rfl⟩
        obtain ⟨fn, tmps, assign, body, hy, hR⟩ := HY.out k (w2.alloc (.cells #[.int .u64 a.toNat, .int .u64 c.toNat] 76)) (HJ.out k w2 _ J2 (hAl _)) (by rw [← HN.out]; exact hlt)
        have hy' : ((Instr.yield l #[.int .i64 (96 + 2 * (k : Int)), .agg #[.int .u64 a.toNat, .int .u64 c.toNat]]).run Try.prog (w2.alloc (.cells #[.int .u64 a.toNat, .int .u64 c.toNat] 76))) = .ok (.round l fn tmps assign body) (w2.alloc (.cells #[.int .u64 a.toNat, .int .u64 c.toNat] 76)) := by
          rw [ha, hc]; rw [encY, tb0, ha, hc] at hy; exact hy
        have hr1 : IntKind.i64.wrap (2 * (k : Int)) = 2 * (k : Int) := IntWalk.i64_in _ (by omega)
        have hr2 : IntKind.i64.wrap (96 + 2 * (k : Int)) = 96 + 2 * (k : Int) := IntWalk.i64_in _ (by omega)
        rw [← ha, ← hc, h0]
        have HJ3 := Lib.hid hR
        clear hy hR tb0 ha hc
        gi_wp2
        refine HJ3.out.mono ?_
        rintro e W3 ⟨rfl, hJ3⟩
        have HJ4 := Lib.hid hJ3
        clear hJ3
        gi_wp2
        go_roundw
        case rel =>
          refine ⟨k + 1, by omega, by simp, HJ4, Lib.hid fun i l' hi hl => ?_⟩
          by_cases e : i = k
          · subst e; rw [htl.out] at hl; cases hl; exact h0
          · exact hok.out i l' (by omega) hl
        case measure => simp [intOf]; omega
      · have ce3 := fun o => (((hAl o).cell (p := ⟨eb, 0, none⟩) (World.block_lt_of_cell? w2 _ ce2)).trans ce2)
        have H0 := Lib.hid h0
        have cc3 := fun o => (((hAl o).cell (p := ⟨cb, 0, none⟩) (World.block_lt_of_cell? w2 _ cc2)).trans cc2)
        have fc3 := fun o => (((hAl o).frozen (p := ⟨cb, 0, none⟩) (World.block_lt_of_cell? w2 _ cc2)).trans fc2)
        gi_wp2
        have hE := errT_take T k tl hok.out htl.out H0.out
        exact bodyPost_ret (results_none rfl _ _ _) rfl ⟨⟨_, rfl⟩, k, _, HJ.out k w2 _ J2 (hAl _), .inr ⟨by rw [hE]; exact H0.out, by rw [hE]⟩⟩
    · obtain rfl : k = N := by omega
      gi_wp2
      go_end0
      exact ⟨⟨_, rfl⟩, _, wr, hJs.out, .inl ⟨errT_none T (fun i l' hi hl => hok.out i l' (by rw [HN.out]; exact hi) hl), HN.out, rfl⟩⟩
/-- **words(types, &e)**: the two are boxed; the function value captures the boxes. -/
theorem wordsT_any (tv : Value) (T : List (List UInt8)) (c : Addr) (w : World) (h : Typs w tv T) :
    Calls Try.prog 27 #[tv, .pointer (some c)] w fun e w' => e = .returned (.func (.func 54) #[] #[.pointer (some ⟨w.heap.size, 0, none⟩), .pointer (some ⟨w.heap.size + 1, 0, none⟩)]) ∧
      w' = (w.alloc (.cells #[tv] 22)).alloc (.cells #[.pointer (some c)] 75) := by
  obtain ⟨vs, -, ⟨A, cp, rfl, -⟩, -⟩ := h
  go_enter Try.func27, Try.ntmps27
  go_wp2
  go_ret
  exact ⟨rfl, rfl⟩
end Go.Proofs.Ytodbbacmdjcheaa
namespace Go.Proofs.Ytodbbacmdjcheaa
open Go.RowKit L02 L05 L06
def supV (W T : Int) : Value := .agg #[.int .i64 W, .int .i64 T]
def arr8 (l : List UInt64) : Value := .agg (l.map u64).toArray
theorem Check6_any (W T : Int) (w : World) : Calls Try.prog 55 #[supV W T] w fun e w' => e = .returned (.int .i64 (supErr W T)) ∧ Below w.heap.size w w' := by
  unfold supV
  go_enter Try.func55, Try.ntmps55
  go_wp2
  all_goals
    go_ret
    refine ⟨ret_int ?_, (Below.refl _ _).alloc (Nat.le_refl _) _⟩
    first
    | exact (if_pos (by unfold SupOk SizeOk; omega)).symm
    | exact (if_neg (by unfold SupOk SizeOk; omega)).symm
set_option maxHeartbeats 1000000 in
theorem words_any (W T : Int) (w : World) (h : SupOk W T) : Calls Try.prog 56 #[supV W T] w fun e w' => e = .returned (arr8 (wordsOf W T)) ∧ Below w.heap.size w w' := by
  have h1 := h.1.1; have h2 := h.1.2.1; have h3 := h.2.1; have h4 := h.2.2
  have hu1 := u_nat (n := W) (by omega) (by omega)
  have hu2 := u_nat (n := T) (by omega) (by omega)
  have HU1 := Lib.hid hu1; have HU2 := Lib.hid hu2; clear hu1 hu2 h
  unfold supV
  go_enter Try.func56, Try.ntmps56
  go_wp2_with fail
  have hW : (((w.alloc (.cells #[.int .i64 W, .int .i64 T] 80)).alloc (.cells #[.int .u64 0, .int .u64 0, .int .u64 0, .int .u64 0, .int .u64 0, .int .u64 0, .int .u64 0, .int .u64 0] 125)).alloc
    (.cells #[.int .u64 32777959566500194, .int .u64 1, .int .u64 W, .int .u64 T, .int .u64 0, .int .u64 0, .int .u64 0, .int .u64 0] 125)).heap.size = w.heap.size + 1 + 1 + 1 := by simp
  have g2 := blk_new ((w.alloc (.cells #[.int .i64 W, .int .i64 T] 80)).alloc (.cells #[.int .u64 0, .int .u64 0, .int .u64 0, .int .u64 0, .int .u64 0, .int .u64 0, .int .u64 0, .int .u64 0] 125))
    (.cells #[.int .u64 32777959566500194, .int .u64 1, .int .u64 W, .int .u64 T, .int .u64 0, .int .u64 0, .int .u64 0, .int .u64 0] 125)
  have g1 := blk_old (blk_new (w.alloc (.cells #[.int .i64 W, .int .i64 T] 80)) (.cells #[.int .u64 0, .int .u64 0, .int .u64 0, .int .u64 0, .int .u64 0, .int .u64 0, .int .u64 0, .int .u64 0] 125))
    (.cells #[.int .u64 32777959566500194, .int .u64 1, .int .u64 W, .int .u64 T, .int .u64 0, .int .u64 0, .int .u64 0, .int .u64 0] 125)
  rw [show ((w.alloc (.cells #[.int .i64 W, .int .i64 T] 80)).alloc (.cells #[.int .u64 0, .int .u64 0, .int .u64 0, .int .u64 0, .int .u64 0, .int .u64 0, .int .u64 0, .int .u64 0] 125)).heap.size = w.heap.size + 1 + 1 by simp] at g2
  rw [show (w.alloc (.cells #[.int .i64 W, .int .i64 T] 80)).heap.size = w.heap.size + 1 by simp] at g1
  have B : Below w.heap.size w _ := (((Below.refl _ w).alloc (Nat.le_refl _) (.cells #[.int .i64 W, .int .i64 T] 80)).alloc (by simp) (.cells #[.int .u64 0, .int .u64 0, .int .u64 0, .int .u64 0, .int .u64 0, .int .u64 0, .int .u64 0, .int .u64 0] 125)).alloc (by simp; omega)
    (.cells #[.int .u64 32777959566500194, .int .u64 1, .int .u64 W, .int .u64 T, .int .u64 0, .int .u64 0, .int .u64 0, .int .u64 0] 125)
  have r := part_words (n := 7) (c := 8) (body W T) g2 rfl rfl (by simp [body, u64, HU1.out, HU2.out, magic]) (by simp)
  refine (Of_any _ _ _ r (by simp [body])).mono ?_
  rintro e w2 ⟨rfl, b⟩
  have g1' := blk_below g1 b; have g2' := blk_below g2 b
  replace B := B.trans (b.mono B.size)
  have hz := b.size
  rw [hW] at hz
  clear r b g1 g2 hW
  obtain ⟨S, hS⟩ : ∃ S, S = sum (body W T) := ⟨_, rfl⟩
  rw [← hS]
  have HS := Lib.hid hS; clear hS
  have c1 := blk_cell g1'; have c2 := blk_cell g2'; have f1 := blk_free g1'; have f2 := blk_free g2'
  have HB := Lib.hid B
  clear B g1' g2'
  go_wp2
  refine bodyPost_ret (v := arr8 (wordsOf W T)) ?_ rfl ⟨rfl, ?_⟩
  · simp [results, Try.results56, go_sem, c1, f1]
    simp [arr8, wordsOf, body, u64, HU1.out, HU2.out, magic, HS.out]
  · iterate 9 refine Below.setCell ?_ (by simp <;> omega) _
    exact HB.out
/-- fresh words and an error; the block may be that of an array. -/
def RetWB (w : World) (l : List UInt64) (err : Int) (e : Ending) (w' : World) : Prop := ∃ v, e = .returned (.tuple #[v, .int .i64 err]) ∧ (∃ E, OwnW w' w.heap.size E v l) ∧ Below w.heap.size w w'
set_option maxHeartbeats 1000000 in
theorem Write6_any (W T : Int) (w : World) : Calls Try.prog 29 #[supV W T] w (RetWB w (write W T) (supErr W T)) := by
  by_cases h : SupOk W T
  · have h0 : supErr W T = 0 := if_pos h
    have hl : arr8 (wordsOf W T) = .agg #[.int .u64 magic.toNat, .int .u64 (1 : UInt64).toNat, .int .u64 (u W).toNat, .int .u64 (u T).toNat, .int .u64 (0 : UInt64).toNat, .int .u64 (0 : UInt64).toNat, .int .u64 (0 : UInt64).toNat, .int .u64 (sum (body W T)).toNat] := rfl
    have H := Lib.hid h; have H0 := Lib.hid h0; clear h h0
    have HL := Lib.hid hl; clear hl
    unfold supV
    go_enter Try.func29, Try.ntmps29
    go_wp2_with fail
    refine (Check6_any W T _).mono ?_
    rw [H0.out]
    rintro e w1 ⟨rfl, b⟩
    have c1 := blk_cell (blk_below (blk_new w (.cells #[.int .i64 W, .int .i64 T] 80)) b)
    have B := ((Below.refl _ w).alloc (Nat.le_refl _) (.cells #[.int .i64 W, .int .i64 T] 80)).trans (b.mono (by simp))
    have HB := Lib.hid B; clear B b
    go_wp2_with fail
    refine (words_any W T _ H.out).mono ?_
    rw [HL.out]
    rintro e w2 ⟨rfl, b⟩
    have B := HB.out.trans (b.mono HB.out.size)
    have HB := Lib.hid B; clear B b
    clear c1
    go_wp2
    go_ret2
    refine ⟨_, ret_ve H0.out.symm, ⟨125, OwnW.of (World.ownsRow_lit w2 _ 8 HB.out.size (by simp [maxLen]) rfl) ?_⟩, HB.out.alloc HB.out.size _⟩
    rw [write, if_pos H.out]
    rfl
  · have h0 : supErr W T = 8 := if_neg h
    have H := Lib.hid h; have H0 := Lib.hid h0; clear h h0
    unfold supV
    go_enter Try.func29, Try.ntmps29
    go_wp2_with fail
    refine (Check6_any W T _).mono ?_
    rw [H0.out]
    rintro e w1 ⟨rfl, b⟩
    have B := ((Below.refl _ w).alloc (Nat.le_refl _) (.cells #[.int .i64 W, .int .i64 T] 80)).trans (b.mono (by simp))
    have HB := Lib.hid B; clear B b
    go_wp2
    go_ret2
    refine ⟨_, ret_ve H0.out.symm, ⟨64, ?_⟩, HB.out⟩
    rw [write, if_neg H.out]
    exact OwnW.nil _ _ _
end Go.Proofs.Ytodbbacmdjcheaa
namespace Go.Proofs.Ytodbbacmdjcheaa.L01
end Go.Proofs.Ytodbbacmdjcheaa.L01
namespace Go.Proofs.Ytodbbacmdjcheaa
open Go.RowKit L01
end Go.Proofs.Ytodbbacmdjcheaa
