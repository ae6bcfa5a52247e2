/- Contracts of the functions that the laws 'K' reach, part 4. No condition. -/
import Derived.Test.YtodbbacmdjcheaaMKc
set_option linter.unusedVariables false
set_option linter.unusedSimpArgs false
namespace Go.Proofs.Ytodbbacmdjcheaa
open Go.RowKit Go.Shelf L02 L05 L13
/-- the first error of types -/
def errT : List (List UInt8) → Int
  | [] => 0
  | l :: T => if kErr l = 0 then errT T else kErr l
theorem errT_take : ∀ (T : List (List UInt8)) (k : Nat) (l : List UInt8), (∀ i l', i < k → T[i]? = some l' → kErr l' = 0) → T[k]? = some l → kErr l ≠ 0 → errT T = kErr l
  | [], k, l, _, h, _ => by simp at h
  | x :: T, 0, l, _, h, h2 => by simp at h; subst h; rw [errT, if_neg h2]
  | x :: T, k + 1, l, h1, h, h2 => by
    rw [errT, if_pos (h1 0 x (by omega) rfl)]
    exact errT_take T k l (fun i l' hi hl => h1 (i + 1) l' (by omega) (by simpa using hl)) (by simpa using h) h2
theorem errT_none : ∀ (T : List (List UInt8)), (∀ i l', i < T.length → T[i]? = some l' → kErr l' = 0) → errT T = 0
  | [], _ => rfl
  | x :: T, h => by
    rw [errT, if_pos (h 0 x (by simp) rfl)]
    exact errT_none T (fun i l' hi hl => h (i + 1) l' (by simp; omega) (by simpa using hl))
/-- what the loop's variables get in round k -/
def encY (T : List (List UInt8)) (k : Nat) : Array Value := #[.int .i64 (96 + 2 * k), .agg #[.int .u64 (w0 (T.getD k [])).toNat, .int .u64 (w1 (T.getD k [])).toNat]]
set_option maxRecDepth 100000 in
set_option maxHeartbeats 4000000 in
theorem wordsT1_any (m l tb eb cb : Nat) (tv : Value) (T : List (List UInt8)) (hT8 : T.length ≤ 1000) (J : Nat → World → Prop)
    (hJ : ∀ k A B, J k A → Below A.heap.size A B → J k B)
    (hJT : ∀ k A, J k A → Typs A tv T ∧ A.cell? ⟨tb, 0, none⟩ = some tv ∧ A.cell? ⟨eb, 0, none⟩ = some (.pointer (some ⟨cb, 0, none⟩)) ∧ A.cell? ⟨cb, 0, none⟩ = some (.int .i64 0) ∧ A.frozen? ⟨cb, 0, none⟩ = false)
    (hY : ∀ k A, J k A → k < T.length → YieldAt Fence.wide m Try.prog l (encY T k) A fun e W' => e = .returned (.bool true) ∧ J (k + 1) W')
    (W : World) (h0 : J 0 W) :
    CallsIn Fence.wide (m + 1) Try.prog 54 #[.func (.yield l) #[] #[], .pointer (some ⟨tb, 0, none⟩), .pointer (some ⟨eb, 0, none⟩)] W fun e W' => (∃ v, e = .returned v) ∧
      ∃ k A, J k A ∧ ((errT T = 0 ∧ k = T.length ∧ W' = A) ∨ (errT T ≠ 0 ∧ W' = A.setCell ⟨cb, 0, none⟩ (.int .i64 (errT T)))) := by
  have HY := Lib.hid hY; have HT := Lib.hid hJT; have HJ := Lib.hid hJ; have H0 := Lib.hid h0
  obtain ⟨t0, ct0, -, -, -⟩ := hJT 0 W h0
  have l1 := t0.len
  have HTT := Lib.hid t0
  obtain ⟨N, hN⟩ : ∃ N, N = T.length := ⟨_, rfl⟩
  rw [← hN] at l1 hT8
  have HN := Lib.hid hN
  clear hY hJT hJ h0 t0 hN
  refine callsIn_of_wp Try.func54 rfl trivial ?_ rfl
  simp only [Try.ntmps54, List.size_toArray, List.length_cons, List.length_nil, Nat.reduceAdd, Nat.reduceSub, Array.replicate_succ, Array.replicate_zero, List.push_toArray, List.append_toArray, List.nil_append, List.cons_append]
  gi_wp2
  gi_loopw [10] (fun i wr => ∃ k : Nat, k ≤ N ∧ i = .int .i64 k ∧ Hid (J k wr) ∧ Hid (∀ i l', i < k → T[i]? = some l' → kErr l' = 0))
    (fun i _ => N - (intOf i).toNat)
  case atStart => exact ⟨0, Nat.zero_le _, rfl, H0, Lib.hid (fun i l' hi => by omega)⟩
  case round =>
    obtain ⟨k, hk, rfl, hJs, hok⟩ := hrel
    by_cases hlt : k < N
    · obtain ⟨tr, ct, ce, cc, fc⟩ := HT.out k wr hJs.out
      obtain ⟨ad, x, tl, hix, hcx, htl, hbx⟩ := tr.at_ (k := k) (by rw [← HN.out]; exact hlt)
      have one := hbx.out.oneCell
      gi_wp2_with fail
      refine ⟨trivial, (callsIn_wide.2 (KWrite_any x tl _ _ (kErr tl) rfl rfl rfl wr hbx.out)).mono ?_⟩
      rintro e w2 ⟨rfl, b⟩
      have J2 := HJ.out k wr w2 hJs.out b
      obtain ⟨-, -, ce2, cc2, fc2⟩ := HT.out k w2 J2
      have tb0 : T.getD k [] = tl := by rw [List.getD_eq_getElem?_getD, htl.out]; rfl
      have hAl := fun o => (Below.refl w2.heap.size w2).alloc (Nat.le_refl _) o
      have HTB := Lib.hid tb0
      by_cases h0 : kErr tl = 0
      · obtain ⟨a, ha⟩ : ∃ a, a = w0 tl := ⟨_, rfl⟩
        obtain ⟨c, hc⟩ : ∃ c, c = w1 tl := ⟨_, rfl⟩
        obtain ⟨fn, tmps, assign, body, hy, hR⟩ := HY.out k (w2.alloc (.cells #[.int .u64 a.toNat, .int .u64 c.toNat] 76)) (HJ.out k w2 _ J2 (hAl _)) (by rw [← HN.out]; exact hlt)
        have hy' : ((Instr.yield l #[.int .i64 (96 + 2 * (k : Int)), .agg #[.int .u64 a.toNat, .int .u64 c.toNat]]).run Try.prog (w2.alloc (.cells #[.int .u64 a.toNat, .int .u64 c.toNat] 76))) = .ok (.round l fn tmps assign body) (w2.alloc (.cells #[.int .u64 a.toNat, .int .u64 c.toNat] 76)) := by
          rw [ha, hc]; rw [encY, tb0, ha, hc] at hy; exact hy
        have hr1 : IntKind.i64.wrap (2 * (k : Int)) = 2 * (k : Int) := IntWalk.i64_in _ (by omega)
        have hr2 : IntKind.i64.wrap (96 + 2 * (k : Int)) = 96 + 2 * (k : Int) := IntWalk.i64_in _ (by omega)
        rw [← ha, ← hc, h0]
        have HJ3 := Lib.hid hR
        clear hy hR tb0 ha hc
        gi_wp2
        refine HJ3.out.mono ?_
        rintro e W3 ⟨rfl, hJ3⟩
        have HJ4 := Lib.hid hJ3
        clear hJ3
        gi_wp2
        go_roundw
        case rel =>
          refine ⟨k + 1, by omega, by simp, HJ4, Lib.hid fun i l' hi hl => ?_⟩
          by_cases e : i = k
          · subst e; rw [htl.out] at hl; cases hl; exact h0
          · exact hok.out i l' (by omega) hl
        case measure => simp [intOf]; omega
      · have ce3 := fun o => (((hAl o).cell (p := ⟨eb, 0, none⟩) (World.block_lt_of_cell? w2 _ ce2)).trans ce2)
        have H0 := Lib.hid h0
        have cc3 := fun o => (((hAl o).cell (p := ⟨cb, 0, none⟩) (World.block_lt_of_cell? w2 _ cc2)).trans cc2)
        have fc3 := fun o => (((hAl o).frozen (p := ⟨cb, 0, none⟩) (World.block_lt_of_cell? w2 _ cc2)).trans fc2)
        gi_wp2
        have hE := errT_take T k tl hok.out htl.out H0.out
        exact bodyPost_ret (results_none rfl _ _ _) rfl ⟨⟨_, rfl⟩, k, _, HJ.out k w2 _ J2 (hAl _), .inr ⟨by rw [hE]; exact H0.out, by rw [hE]⟩⟩
    · obtain rfl : k = N := by omega
      gi_wp2
      go_end0
      exact ⟨⟨_, rfl⟩, _, wr, hJs.out, .inl ⟨errT_none T (fun i l' hi hl => hok.out i l' (by rw [HN.out]; exact hi) hl), HN.out, rfl⟩⟩
/-- **words(types, &e)**: the two are boxed; the function value captures the boxes. -/
theorem wordsT_any (tv : Value) (T : List (List UInt8)) (c : Addr) (w : World) (h : Typs w tv T) :
    Calls Try.prog 27 #[tv, .pointer (some c)] w fun e w' => e = .returned (.func (.func 54) #[] #[.pointer (some ⟨w.heap.size, 0, none⟩), .pointer (some ⟨w.heap.size + 1, 0, none⟩)]) ∧
      w' = (w.alloc (.cells #[tv] 22)).alloc (.cells #[.pointer (some c)] 75) := by
  obtain ⟨vs, -, ⟨A, cp, rfl, -⟩, -⟩ := h
  go_enter Try.func27, Try.ntmps27
  go_wp2
  go_ret
  exact ⟨rfl, rfl⟩
end Go.Proofs.Ytodbbacmdjcheaa
namespace Go.Proofs.Ytodbbacmdjcheaa
open Go.RowKit L02 L05 L06
def supV (W T : Int) : Value := .agg #[.int .i64 W, .int .i64 T]
def arr8 (l : List UInt64) : Value := .agg (l.map u64).toArray
theorem Check6_any (W T : Int) (w : World) : Calls Try.prog 55 #[supV W T] w fun e w' => e = .returned (.int .i64 (supErr W T)) ∧ Below w.heap.size w w' := by
  unfold supV
  go_enter Try.func55, Try.ntmps55
  go_wp2
  all_goals
    go_ret
    refine ⟨ret_int ?_, (Below.refl _ _).alloc (Nat.le_refl _) _⟩
    first
    | exact (if_pos (by unfold SupOk SizeOk; omega)).symm
    | exact (if_neg (by unfold SupOk SizeOk; omega)).symm
set_option maxHeartbeats 1000000 in
theorem words_any (W T : Int) (w : World) (h : SupOk W T) : Calls Try.prog 56 #[supV W T] w fun e w' => e = .returned (arr8 (wordsOf W T)) ∧ Below w.heap.size w w' := by
  have h1 := h.1.1; have h2 := h.1.2.1; have h3 := h.2.1; have h4 := h.2.2
  have hu1 := u_nat (n := W) (by omega) (by omega)
  have hu2 := u_nat (n := T) (by omega) (by omega)
  have HU1 := Lib.hid hu1; have HU2 := Lib.hid hu2; clear hu1 hu2 h
  unfold supV
  go_enter Try.func56, Try.ntmps56
  go_wp2_with fail
  have hW : (((w.alloc (.cells #[.int .i64 W, .int .i64 T] 80)).alloc (.cells #[.int .u64 0, .int .u64 0, .int .u64 0, .int .u64 0, .int .u64 0, .int .u64 0, .int .u64 0, .int .u64 0] 125)).alloc
    (.cells #[.int .u64 32777959566500194, .int .u64 1, .int .u64 W, .int .u64 T, .int .u64 0, .int .u64 0, .int .u64 0, .int .u64 0] 125)).heap.size = w.heap.size + 1 + 1 + 1 := by simp
  have g2 := blk_new ((w.alloc (.cells #[.int .i64 W, .int .i64 T] 80)).alloc (.cells #[.int .u64 0, .int .u64 0, .int .u64 0, .int .u64 0, .int .u64 0, .int .u64 0, .int .u64 0, .int .u64 0] 125))
    (.cells #[.int .u64 32777959566500194, .int .u64 1, .int .u64 W, .int .u64 T, .int .u64 0, .int .u64 0, .int .u64 0, .int .u64 0] 125)
  have g1 := blk_old (blk_new (w.alloc (.cells #[.int .i64 W, .int .i64 T] 80)) (.cells #[.int .u64 0, .int .u64 0, .int .u64 0, .int .u64 0, .int .u64 0, .int .u64 0, .int .u64 0, .int .u64 0] 125))
    (.cells #[.int .u64 32777959566500194, .int .u64 1, .int .u64 W, .int .u64 T, .int .u64 0, .int .u64 0, .int .u64 0, .int .u64 0] 125)
  rw [show ((w.alloc (.cells #[.int .i64 W, .int .i64 T] 80)).alloc (.cells #[.int .u64 0, .int .u64 0, .int .u64 0, .int .u64 0, .int .u64 0, .int .u64 0, .int .u64 0, .int .u64 0] 125)).heap.size = w.heap.size + 1 + 1 by simp] at g2
  rw [show (w.alloc (.cells #[.int .i64 W, .int .i64 T] 80)).heap.size = w.heap.size + 1 by simp] at g1
  have B : Below w.heap.size w _ := (((Below.refl _ w).alloc (Nat.le_refl _) (.cells #[.int .i64 W, .int .i64 T] 80)).alloc (by simp) (.cells #[.int .u64 0, .int .u64 0, .int .u64 0, .int .u64 0, .int .u64 0, .int .u64 0, .int .u64 0, .int .u64 0] 125)).alloc (by simp; omega)
    (.cells #[.int .u64 32777959566500194, .int .u64 1, .int .u64 W, .int .u64 T, .int .u64 0, .int .u64 0, .int .u64 0, .int .u64 0] 125)
  have r := part_words (n := 7) (c := 8) (body W T) g2 rfl rfl (by simp [body, u64, HU1.out, HU2.out, magic]) (by simp)
  refine (Of_any _ _ _ r (by simp [body])).mono ?_
  rintro e w2 ⟨rfl, b⟩
  have g1' := blk_below g1 b; have g2' := blk_below g2 b
  replace B := B.trans (b.mono B.size)
  have hz := b.size
  rw [hW] at hz
  clear r b g1 g2 hW
  obtain ⟨S, hS⟩ : ∃ S, S = sum (body W T) := ⟨_, rfl⟩
  rw [← hS]
  have HS := Lib.hid hS; clear hS
  have c1 := blk_cell g1'; have c2 := blk_cell g2'; have f1 := blk_free g1'; have f2 := blk_free g2'
  have HB := Lib.hid B
  clear B g1' g2'
  go_wp2
  refine bodyPost_ret (v := arr8 (wordsOf W T)) ?_ rfl ⟨rfl, ?_⟩
  · simp [results, Try.results56, go_sem, c1, f1]
    simp [arr8, wordsOf, body, u64, HU1.out, HU2.out, magic, HS.out]
  · iterate 9 refine Below.setCell ?_ (by simp <;> omega) _
    exact HB.out
/-- fresh words and an error; the block may be that of an array. -/
def RetWB (w : World) (l : List UInt64) (err : Int) (e : Ending) (w' : World) : Prop := ∃ v, e = .returned (.tuple #[v, .int .i64 err]) ∧ (∃ E, OwnW w' w.heap.size E v l) ∧ Below w.heap.size w w'
set_option maxHeartbeats 1000000 in
theorem Write6_any (W T : Int) (w : World) : Calls Try.prog 29 #[supV W T] w (RetWB w (write W T) (supErr W T)) := by
  by_cases h : SupOk W T
  · have h0 : supErr W T = 0 := if_pos h
    have hl : arr8 (wordsOf W T) = .agg #[.int .u64 magic.toNat, .int .u64 (1 : UInt64).toNat, .int .u64 (u W).toNat, .int .u64 (u T).toNat, .int .u64 (0 : UInt64).toNat, .int .u64 (0 : UInt64).toNat, .int .u64 (0 : UInt64).toNat, .int .u64 (sum (body W T)).toNat] := rfl
    have H := Lib.hid h; have H0 := Lib.hid h0; clear h h0
    have HL := Lib.hid hl; clear hl
    unfold supV
    go_enter Try.func29, Try.ntmps29
    go_wp2_with fail
    refine (Check6_any W T _).mono ?_
    rw [H0.out]
    rintro e w1 ⟨rfl, b⟩
    have c1 := blk_cell (blk_below (blk_new w (.cells #[.int .i64 W, .int .i64 T] 80)) b)
    have B := ((Below.refl _ w).alloc (Nat.le_refl _) (.cells #[.int .i64 W, .int .i64 T] 80)).trans (b.mono (by simp))
    have HB := Lib.hid B; clear B b
    go_wp2_with fail
    refine (words_any W T _ H.out).mono ?_
    rw [HL.out]
    rintro e w2 ⟨rfl, b⟩
    have B := HB.out.trans (b.mono HB.out.size)
    have HB := Lib.hid B; clear B b
    clear c1
    go_wp2
    go_ret2
    refine ⟨_, ret_ve H0.out.symm, ⟨125, OwnW.of (World.ownsRow_lit w2 _ 8 HB.out.size (by simp [maxLen]) rfl) ?_⟩, HB.out.alloc HB.out.size _⟩
    rw [write, if_pos H.out]
    rfl
  · have h0 : supErr W T = 8 := if_neg h
    have H := Lib.hid h; have H0 := Lib.hid h0; clear h h0
    unfold supV
    go_enter Try.func29, Try.ntmps29
    go_wp2_with fail
    refine (Check6_any W T _).mono ?_
    rw [H0.out]
    rintro e w1 ⟨rfl, b⟩
    have B := ((Below.refl _ w).alloc (Nat.le_refl _) (.cells #[.int .i64 W, .int .i64 T] 80)).trans (b.mono (by simp))
    have HB := Lib.hid B; clear B b
    go_wp2
    go_ret2
    refine ⟨_, ret_ve H0.out.symm, ⟨64, ?_⟩, HB.out⟩
    rw [write, if_neg H.out]
    exact OwnW.nil _ _ _
end Go.Proofs.Ytodbbacmdjcheaa
namespace Go.Proofs.Ytodbbacmdjcheaa.L01
/-- the bits of w from f on, k of them -/
def val (w f k : Nat) : Nat := w / 2 ^ f % 2 ^ k
/-- w with those bits set to v's -/
def wth (w f k v : Nat) : Nat := w / 2 ^ (f + k) * 2 ^ (f + k) + v % 2 ^ k * 2 ^ f + w % 2 ^ f
theorem bit_div (w k : Nat) : w / 2 ^ k / 2 = w / 2 ^ (k + 1) := by rw [Nat.div_div_eq_div_mul, ← Nat.pow_succ]
theorem val_zero (w f : Nat) : val w f 0 = 0 := by simp [val, Nat.mod_one]
theorem val_succ (w f k : Nat) : val w f (k + 1) = val w f k + w / 2 ^ (f + k) % 2 * 2 ^ k := by
  unfold val
  rw [Nat.mod_pow_succ, Nat.div_div_eq_div_mul, ← Nat.pow_add, Nat.mul_comm (2 ^ k)]
theorem val_lt (w f k : Nat) : val w f k < 2 ^ k := Nat.mod_lt _ (Nat.two_pow_pos k)
theorem wth_zero (w f v : Nat) : wth w f 0 v = w := by
  unfold wth
  have := Nat.div_add_mod w (2 ^ f)
  simp [Nat.mod_one]
  rw [Nat.mul_comm]; exact this
theorem low_lt (w f k v : Nat) : v % 2 ^ k * 2 ^ f + w % 2 ^ f < 2 ^ (f + k) := by
  have h1 := Nat.mod_lt v (Nat.two_pow_pos k)
  have h2 := Nat.mod_lt w (Nat.two_pow_pos f)
  rw [Nat.pow_add]
  have h3 : (v % 2 ^ k + 1) * 2 ^ f ≤ 2 ^ k * 2 ^ f := Nat.mul_le_mul_right _ h1
  rw [Nat.add_mul, Nat.mul_comm (2 ^ k)] at h3
  omega
theorem wth_hi (w f k v : Nat) : wth w f k v / 2 ^ (f + k) = w / 2 ^ (f + k) := by
  have h := low_lt w f k v
  unfold wth
  rw [Nat.add_assoc, Nat.mul_comm, Nat.mul_add_div (Nat.two_pow_pos _), Nat.div_eq_of_lt h, Nat.add_zero]
theorem wth_ge (w f k v : Nat) : w / 2 ^ (f + k) % 2 * 2 ^ (f + k) ≤ wth w f k v := by
  unfold wth
  have h1 : w / 2 ^ (f + k) % 2 * 2 ^ (f + k) ≤ w / 2 ^ (f + k) * 2 ^ (f + k) := Nat.mul_le_mul_right _ (Nat.mod_le _ _)
  omega
theorem wth_succ (w f k v : Nat) : wth w f (k + 1) v = wth w f k v - w / 2 ^ (f + k) % 2 * 2 ^ (f + k) + v / 2 ^ k % 2 * 2 ^ (f + k) := by
  have h1 : w / 2 ^ (f + k) = 2 * (w / 2 ^ (f + (k + 1))) + w / 2 ^ (f + k) % 2 := by
    rw [← Nat.add_assoc, ← bit_div]; omega
  have h2 : v % 2 ^ (k + 1) = v % 2 ^ k + v / 2 ^ k % 2 * 2 ^ k := by rw [Nat.mod_pow_succ, Nat.mul_comm (2 ^ k)]
  unfold wth
  rw [h2]
  generalize hq' : w / 2 ^ (f + (k + 1)) = q' at *
  generalize hq : w / 2 ^ (f + k) = q at *
  generalize hb : q % 2 = b at *
  generalize hc : v / 2 ^ k % 2 = c at *
  generalize hr : v % 2 ^ k = r at *
  generalize hs : w % 2 ^ f = s at *
  subst h1
  have e1 : 2 ^ (f + (k + 1)) = 2 * 2 ^ (f + k) := by rw [← Nat.add_assoc, Nat.pow_succ, Nat.mul_comm]
  have e2 : (r + c * 2 ^ k) * 2 ^ f = r * 2 ^ f + c * 2 ^ (f + k) := by rw [Nat.add_mul, Nat.mul_assoc, Nat.pow_add, Nat.mul_comm (2 ^ k)]
  have e3 : q' * (2 * 2 ^ (f + k)) = 2 * (q' * 2 ^ (f + k)) := by rw [Nat.mul_left_comm]
  have e4 : (2 * q' + b) * 2 ^ (f + k) = 2 * (q' * 2 ^ (f + k)) + b * 2 ^ (f + k) := by rw [Nat.add_mul, Nat.mul_assoc]
  rw [e1, e2, e3, e4]
  omega
theorem wth_lt {w f k v : Nat} (hw : w < 2 ^ 64) (h : f + k ≤ 64) : wth w f k v < 2 ^ 64 := by
  have h1 := low_lt w f k v
  unfold wth
  have h2 : w / 2 ^ (f + k) < 2 ^ (64 - (f + k)) := by
    rw [Nat.div_lt_iff_lt_mul (Nat.two_pow_pos _), ← Nat.pow_add]
    rw [show 64 - (f + k) + (f + k) = 64 by omega]; exact hw
  have h3 : (w / 2 ^ (f + k) + 1) * 2 ^ (f + k) ≤ 2 ^ (64 - (f + k)) * 2 ^ (f + k) := Nat.mul_le_mul_right _ h2
  rw [← Nat.pow_add, show 64 - (f + k) + (f + k) = 64 by omega, Nat.add_mul] at h3
  omega
end Go.Proofs.Ytodbbacmdjcheaa.L01
namespace Go.Proofs.Ytodbbacmdjcheaa
open Go.RowKit L01
theorem bit_any (x i r : Nat) (hr : r = x / 2 ^ i % 2) (w : World) (hx : x < 18446744073709551616) (hi : i ≤ 64) :
    Calls Try.prog 97 #[.int .u64 (x : Int), .int .i64 (i : Int)] w fun e w' => e = .returned (.int .u64 (r : Int)) ∧ w = w' := by
  have HR := Lib.hid hr; clear hr
  go_enter Try.func97, Try.ntmps97
  go_wp2
  go_loop [0, 5] (fun y k => ∃ j z : Nat, j ≤ i ∧ k = .int .i64 j ∧ y = .int .u64 (z : Int) ∧ z < 18446744073709551616 ∧ Hid (z = x / 2 ^ j)) (fun _ k => i - (intOf k).toNat)
  case atStart => exact ⟨0, x, by omega, rfl, rfl, hx, Lib.hid (by simp)⟩
  case round =>
    obtain ⟨j, z, hj, rfl, rfl, hz, hzz⟩ := hrel
    by_cases hlt : j < i
    · go_wp2
      go_round
      case rel => exact ⟨j + 1, z / 2, by omega, by go_num, by go_num, by omega, Lib.hid (by rw [hzz.out, bit_div])⟩
      case measure => simp [intOf]; omega
    · obtain rfl : j = i := by omega
      go_wp2
      go_ret
      exact ⟨ret_int (by have h1 := hzz.out; have h2 := HR.out; rw [← h1] at h2; omega), rfl⟩
theorem power_any (i r : Nat) (hr : r = 2 ^ i) (w : World) (hi : i < 64) :
    Calls Try.prog 98 #[.int .i64 (i : Int)] w fun e w' => e = .returned (.int .u64 (r : Int)) ∧ w = w' := by
  have HR := Lib.hid hr; clear hr
  go_enter Try.func98, Try.ntmps98
  go_wp2
  go_loop [3, 4] (fun y k => ∃ j z : Nat, j ≤ i ∧ k = .int .i64 j ∧ y = .int .u64 (z : Int) ∧ z < 18446744073709551616 ∧ Hid (z = 2 ^ j)) (fun _ k => i - (intOf k).toNat)
  case atStart => exact ⟨0, 1, by omega, rfl, rfl, by omega, Lib.hid rfl⟩
  case round =>
    obtain ⟨j, z, hj, rfl, rfl, hz, hzz⟩ := hrel
    by_cases hlt : j < i
    · have h2 : 2 * z < 18446744073709551616 := by
        have h3 : 2 ^ (j + 1) ≤ 2 ^ 63 := Nat.pow_le_pow_right (by omega) (by omega)
        rw [hzz.out, Nat.mul_comm, ← Nat.pow_succ]; exact Nat.lt_of_le_of_lt h3 (by decide)
      go_wp2
      go_round
      case rel => exact ⟨j + 1, 2 * z, by omega, by go_num, by go_num, by omega, Lib.hid (by rw [hzz.out, Nat.mul_comm, ← Nat.pow_succ])⟩
      case measure => simp [intOf]; omega
    · obtain rfl : j = i := by omega
      go_wp2
      go_ret
      exact ⟨ret_int (by rw [hzz.out, HR.out]), rfl⟩
set_option maxHeartbeats 1000000 in
theorem Value_any (x f n r : Nat) (hr : r = val x f n) (w : World) (hx : x < 18446744073709551616) (hn : f + n ≤ 64) (h63 : n ≤ 63) :
    Calls Try.prog 99 #[.int .u64 (x : Int), .int .i64 (f : Int), .int .i64 (n : Int)] w fun e w' => e = .returned (.int .u64 (r : Int)) ∧ w = w' := by
  have HR := Lib.hid hr; clear hr
  go_enter Try.func99, Try.ntmps99
  go_wp2
  go_loop [7, 8] (fun y k => ∃ j z : Nat, j ≤ n ∧ k = .int .i64 j ∧ y = .int .u64 (z : Int) ∧ z < 18446744073709551616 ∧ Hid (z = val x f j)) (fun _ k => n - (intOf k).toNat)
  case atStart => exact ⟨0, 0, by omega, rfl, rfl, by omega, Lib.hid (val_zero x f).symm⟩
  case round =>
    obtain ⟨j, z, hj, rfl, rfl, hz, hzz⟩ := hrel
    by_cases hlt : j < n
    · have hp : 2 ^ j ≤ 2 ^ 62 := Nat.pow_le_pow_right (by omega) (by omega)
      obtain ⟨p, hpp⟩ : ∃ p : Nat, p = 2 ^ j := ⟨_, rfl⟩
      obtain ⟨b, hb⟩ : ∃ b : Nat, b = x / 2 ^ (f + j) % 2 := ⟨_, rfl⟩
      have hb2 : b < 2 := by rw [hb]; omega
      have hp2 : p ≤ 4611686018427387904 := by rw [hpp]; exact hp
      have hbp : b * p < 4611686018427387905 := by
        have : b = 0 ∨ b = 1 := by omega
        rcases this with rfl | rfl <;> omega
      have hs : val x f (j + 1) = z + b * p := by rw [val_succ, hzz.out, hb, hpp]
      have hz2 : z + b * p < 9223372036854775808 := by
        rw [← hs]
        have h1 := val_lt x f (j + 1)
        have h2 : 2 ^ (j + 1) ≤ 2 ^ 63 := Nat.pow_le_pow_right (by omega) (by omega)
        exact Nat.lt_of_lt_of_le h1 h2
      have HS := Lib.hid hs; have HP := Lib.hid hpp; have HB := Lib.hid hb; clear hs hpp hb hp
      go_wp2_with fail
      rw [show (f : Int) + (j : Int) = ((f + j : Nat) : Int) by omega]
      refine (bit_any x (f + j) b HB.out _ hx (by omega)).mono ?_
      rintro e w' ⟨rfl, rfl⟩
      go_wp2_with fail
      refine (power_any j p HP.out _ (by omega)).mono ?_
      rintro e w' ⟨rfl, rfl⟩
      have hm : (b : Int) * (p : Int) = ((b * p : Nat) : Int) := by simp
      have h0 : (0 : Int) ≤ (b : Int) * (p : Int) := by rw [hm]; omega
      have h1 : (b : Int) * (p : Int) < 4611686018427387905 := by rw [hm]; omega
      have h2 : (z : Int) + (b : Int) * (p : Int) < 9223372036854775808 := by rw [hm]; omega
      have HM := Lib.hid hm; clear hm
      go_wp2
      go_round
      case rel => exact ⟨j + 1, z + b * p, by omega, by go_num, by have := HM.out; go_num, by omega, Lib.hid HS.out.symm⟩
      case measure => simp [intOf]; omega
    · obtain rfl : j = n := by omega
      go_wp2
      go_ret
      exact ⟨ret_int (by rw [hzz.out, HR.out]), rfl⟩
set_option maxHeartbeats 1000000 in
theorem With_any (x f n v r : Nat) (hr : r = wth x f n v) (w : World) (hx : x < 18446744073709551616) (hv : v < 18446744073709551616) (hn : f + n ≤ 64) (h63 : n ≤ 63) :
    Calls Try.prog 87 #[.int .u64 (x : Int), .int .i64 (f : Int), .int .i64 (n : Int), .int .u64 (v : Int)] w fun e w' => e = .returned (.int .u64 (r : Int)) ∧ w = w' := by
  have HR := Lib.hid hr; clear hr
  go_enter Try.func87, Try.ntmps87
  go_wp2
  go_loop [0, 9] (fun y k => ∃ j z : Nat, j ≤ n ∧ k = .int .i64 j ∧ y = .int .u64 (z : Int) ∧ z < 18446744073709551616 ∧ Hid (z = wth x f j v)) (fun _ k => n - (intOf k).toNat)
  case atStart => exact ⟨0, x, by omega, rfl, rfl, hx, Lib.hid (wth_zero x f v).symm⟩
  case round =>
    obtain ⟨j, z, hj, rfl, rfl, hz, hzz⟩ := hrel
    by_cases hlt : j < n
    · have hp : 2 ^ (f + j) ≤ 2 ^ 63 := Nat.pow_le_pow_right (by omega) (by omega)
      obtain ⟨p, hpp⟩ : ∃ p : Nat, p = 2 ^ (f + j) := ⟨_, rfl⟩
      obtain ⟨b, hb⟩ : ∃ b : Nat, b = z / 2 ^ (f + j) % 2 := ⟨_, rfl⟩
      obtain ⟨c, hc⟩ : ∃ c : Nat, c = v / 2 ^ j % 2 := ⟨_, rfl⟩
      have hb2 : b < 2 := by rw [hb]; omega
      have hc2 : c < 2 := by rw [hc]; omega
      have hp2 : p ≤ 9223372036854775808 := by rw [hpp]; exact hp
      have hbp : b * p ≤ 9223372036854775808 := by
        have : b = 0 ∨ b = 1 := by omega
        rcases this with rfl | rfl <;> omega
      have hcp : c * p ≤ 9223372036854775808 := by
        have : c = 0 ∨ c = 1 := by omega
        rcases this with rfl | rfl <;> omega
      have hbz : b * p ≤ z := by rw [hb, hpp, hzz.out, wth_hi]; exact wth_ge x f j v
      have hs : wth x f (j + 1) v = z - b * p + c * p := by rw [wth_succ, hb, hpp, hc, hzz.out, wth_hi]
      have hz2 : z - b * p + c * p < 18446744073709551616 := by
        rw [← hs]
        exact wth_lt (k := j + 1) hx (by omega)
      have HS := Lib.hid hs; have HP := Lib.hid hpp; have HB := Lib.hid hb; have HC := Lib.hid hc; clear hs hpp hb hp hc
      go_wp2_with fail
      rw [show (f : Int) + (j : Int) = ((f + j : Nat) : Int) by omega]
      refine (bit_any z (f + j) b HB.out _ hz (by omega)).mono ?_
      rintro e w' ⟨rfl, rfl⟩
      go_wp2_with fail
      rw [show (f : Int) + (j : Int) = ((f + j : Nat) : Int) by omega]
      refine (power_any (f + j) p HP.out _ (by omega)).mono ?_
      rintro e w' ⟨rfl, rfl⟩
      have hm : (b : Int) * (p : Int) = ((b * p : Nat) : Int) := by simp
      have hm2 : (c : Int) * (p : Int) = ((c * p : Nat) : Int) := by simp
      have h0 : (0 : Int) ≤ (b : Int) * (p : Int) := by rw [hm]; omega
      have h1 : (b : Int) * (p : Int) ≤ (z : Int) := by rw [hm]; omega
      have h3 : (0 : Int) ≤ (c : Int) * (p : Int) := by rw [hm2]; omega
      have h4 : (c : Int) * (p : Int) ≤ 9223372036854775808 := by rw [hm2]; omega
      have h2 : (z : Int) - (b : Int) * (p : Int) + (c : Int) * (p : Int) < 18446744073709551616 := by rw [hm, hm2]; omega
      have HM := Lib.hid hm; clear hm
      have HM2 := Lib.hid hm2; clear hm2
      go_wp2_with fail
      refine (bit_any v j c HC.out _ hv (by omega)).mono ?_
      rintro e w' ⟨rfl, rfl⟩
      go_wp2_with fail
      rw [show (f : Int) + (j : Int) = ((f + j : Nat) : Int) by omega]
      refine (power_any (f + j) p HP.out _ (by omega)).mono ?_
      rintro e w' ⟨rfl, rfl⟩
      go_wp2
      go_round
      case rel => exact ⟨j + 1, z - b * p + c * p, by omega, by go_num, congrArg _ (by have h5 := HM.out; have h6 := HM2.out; omega), by omega, Lib.hid HS.out.symm⟩
      case measure => simp [intOf]; omega
    · obtain rfl : j = n := by omega
      go_wp2
      go_ret
      exact ⟨ret_int (by rw [hzz.out, HR.out]), rfl⟩
end Go.Proofs.Ytodbbacmdjcheaa
namespace Go.Proofs.Ytodbbacmdjcheaa
open Go.RowKit L01 L02 L05 L14
set_option maxHeartbeats 1000000 in
theorem HCheck_any (b : Hb) (r : Int) (hr : r = hErr b) (w : World) : Calls Try.prog 57 #[.agg #[.int .i64 b.at_, .int .i64 b.size, .int .i64 b.kind, .int .i64 b.ty, .bool b.mark, .int .u64 b.next.toNat]] w fun e w' => e = .returned (.int .i64 r) ∧ Below w.heap.size w w' := by
  have HB := Lib.hid hr; clear hr
  obtain ⟨at_, size, kind, ty, mark, next⟩ := b
  dsimp only at *
  cases mark
  all_goals
    go_enter Try.func57, Try.ntmps57
    go_wp2
    all_goals
      go_ret
      refine ⟨ret_int ?_, (Below.refl _ _).alloc (Nat.le_refl _) _⟩
      rw [HB.out]
      try simp only [Bool.not_eq_true', Bool.not_eq_false', decide_eq_true_eq, decide_eq_false_iff_not, beq_eq_false_iff_ne, beq_iff_eq, bne_iff_ne, bne_eq_false_iff_eq, ne_eq] at *
      first
      | exact (hErr_ok (by simp [BkOk, ObjB, FreeB]; try omega)).symm
      | exact (hErr_no (by simp [BkOk, ObjB, FreeB]; try omega)).symm
theorem mask32_any (w : World) : Calls Try.prog 105 #[.int .i64 0, .int .i64 32] w fun e w' => e = .returned (.int .u64 4294967295) ∧ w = w' := by
  go_enter Try.func105, Try.ntmps105
  go_wp2
  go_ret
  exact ⟨rfl, rfl⟩
theorem Get32_any (x : UInt64) (r : Nat) (hr : r = x.toNat % 4294967296) (w : World) : Calls Try.prog 95 #[.int .u64 x.toNat, .int .i64 0, .int .i64 32] w fun e w' => e = .returned (.tuple #[.int .u64 (r : Int), .int .i64 0]) ∧ w = w' := by
  have hxl := toNat_lt x
  have e1 := and_int (a := (x.toNat : Int)) 32 (by omega) (by omega) 4294967295 (by decide) (by omega)
  rw [show ((2 ^ 32 : Nat) : Int) = 4294967296 from rfl] at e1
  have e2 : (x.toNat : Int) % 4294967296 = (r : Int) := by rw [hr]; omega
  have e3 := e1.trans e2
  clear hr e1 e2
  go_enter Try.func95, Try.ntmps95
  go_wp2_with fail
  refine (mask32_any _).mono ?_
  rintro e w' ⟨rfl, rfl⟩
  go_wp2
  go_ret2
  exact ⟨rfl, rfl⟩
theorem Low32_any (v : Value) (l : List UInt64) (r : Nat) (hr : r = (sum l).toNat % 4294967296) (hl : l.length ≤ 2048) (w : World) (h : Words w v l) :
    Calls Try.prog 84 #[v, .int .i64 32] w fun e w' => e = .returned (.tuple #[.int .u64 (r : Int), .int .i64 0]) ∧ Below w.heap.size w w' := by
  obtain ⟨S, hS⟩ : ∃ S, S = sum l := ⟨_, rfl⟩
  rw [← hS] at hr
  have GT := Lib.hid (fun w => Get32_any S r hr w)
  have HO : Hid (∀ w, Words w v l → Calls Try.prog 67 #[v] w fun e w' => e = .returned (.tuple #[.int .u64 S.toNat, .int .i64 0]) ∧ Below w.heap.size w w') := by
    rw [hS]; exact Lib.hid (fun w h => Of_any v l w h hl)
  have B : Below w.heap.size w w := Below.refl _ _
  have H := Lib.hid h; clear h hr hS
  go_enter Try.func84, Try.ntmps84
  go_wp2_with fail
  refine (HO.out _ (H.out.below B)).mono ?_
  rintro e wa1 ⟨rfl, b⟩
  replace B := B.trans (b.mono B.size); clear b
  go_wp2_with fail
  refine (GT.out _).mono ?_
  rintro e w' ⟨rfl, rfl⟩
  go_wp2
  go_ret2
  exact ⟨rfl, B⟩
theorem lit_one {w : World} {e n : Nat} (x : UInt64) (hn : w.heap.size = n) : Words (w.alloc (.cells #[.int .u64 x.toNat] e)) (.slice (some ⟨n, 0, none⟩) 1 1) [x] := by
  subst hn; exact lit_words [x] rfl rfl (by simp)
set_option maxRecDepth 100000 in
theorem sealed_any (x : UInt64) (r : Nat) (hx : x.toNat < 4294967296) (hr : r = x.toNat + partN x * 4294967296) (w : World) :
    Calls Try.prog 59 #[.int .u64 x.toNat] w fun e w' => e = .returned (.tuple #[.int .u64 (r : Int), .int .i64 0]) ∧ Below w.heap.size w w' := by
  have B : Below w.heap.size w w := Below.refl _ _
  obtain ⟨p, hp⟩ : ∃ p, p = partN x := ⟨_, rfl⟩
  have hpl : p < 4294967296 := by rw [hp]; exact part_lt x
  have hp2 : (sum [x]).toNat % 4294967296 = p := hp.symm
  have LO := Lib.hid (fun v w h => Low32_any v [x] p hp2.symm (by simp) w h)
  have e1 := or_int (a := (x.toNat : Int)) (b := (p : Int) * 4294967296) 32 p (by omega) (by simp; omega) (by omega) (by omega) (by omega)
  have e2 : IntKind.u64.wrap ((p : Int) * 4294967296) = (p : Int) * 4294967296 := by rw [wrap_u64]; omega
  rw [← hp] at hr
  have HR := Lib.hid hr; clear hp hr hp2
  go_enter Try.func59, Try.ntmps59
  go_wp2_with fail
  refine (LO.out _ _ (lit_one x rfl)).mono ?_
  rintro e w' ⟨rfl, b⟩
  replace B := (B.alloc B.size _).trans (b.mono (by simp))
  go_wp2
  go_ret2
  exact ⟨by rw [HR.out]; congr 3, B⟩
set_option maxHeartbeats 1000000 in
theorem of_any (b : Hb) (hb : BkOk b) (lw : Nat) (hlw : lw = lowN b) (w : World) :
    Calls Try.prog 58 #[.agg #[.int .i64 b.at_, .int .i64 b.size, .int .i64 b.kind, .int .i64 b.ty, .bool b.mark, .int .u64 b.next.toNat]] w fun e w' => e = .returned (.agg #[.int .u64 (lw : Int), .int .u64 b.kind, .int .u64 b.ty, .int .u64 b.size, .int .u64 (mk1 b.mark : Nat)]) ∧ Below w.heap.size w w' := by
  have B : Below w.heap.size w w := Below.refl _ _
  obtain ⟨h1, h2, h3, h4, h5, h6⟩ := hb.bounds
  obtain ⟨at_, size, kind, ty, mark, next⟩ := b
  dsimp only at *
  obtain ⟨S, rfl⟩ := Int.eq_ofNat_of_zero_le (show 0 ≤ size by omega)
  obtain ⟨K, rfl⟩ := Int.eq_ofNat_of_zero_le (show 0 ≤ kind by omega)
  obtain ⟨T, rfl⟩ := Int.eq_ofNat_of_zero_le h5
  have w1 : IntKind.u64.wrap (K : Int) = K := by rw [wrap_u64]; omega
  have w2 : IntKind.u64.wrap (T : Int) = T := by rw [wrap_u64]; omega
  have w3 : IntKind.u64.wrap (S : Int) = S := by rw [wrap_u64]; omega
  have w4 : IntKind.u64.wrap ((T : Int) * 512) = (T : Int) * 512 := by rw [wrap_u64]; omega
  have w5 : IntKind.u64.wrap ((S : Int) * 65536) = (S : Int) * 65536 := by rw [wrap_u64]; omega
  have HL := Lib.hid hlw; clear hlw hb
  cases mark
  · have o1 := or_int (a := (K : Int)) (b := (T : Int) * 512) 9 T (by omega) (by simp; omega) (by omega) (by omega) (by omega)
    have o2 := or_int (a := (K : Int) + (T : Int) * 512) (b := (S : Int) * 65536) 16 S (by omega) (by simp; omega) (by omega) (by omega) (by omega)
    have o0 := or_int (a := (K : Int)) (b := 0) 9 0 (by omega) (by simp; omega) (by omega) (by omega) (by omega)
    rw [Int.add_zero] at o0
    go_enter Try.func58, Try.ntmps58
    go_wp2
    refine bodyPost_ret (v := .agg #[.int .u64 (lw : Int), .int .u64 K, .int .u64 T, .int .u64 S, .int .u64 0]) (by simp [results, Try.results58, go_sem, HL.out, lowN, mk1]) rfl ⟨rfl, ?_⟩
    (repeat (first | refine Below.setCell ?_ (by first | exact Nat.le_refl _ | (simp <;> omega)) _ | refine Below.alloc ?_ (by first | exact B.size | (have := B.size; simp <;> omega)) _)); exact B
  · have o0 := or_int (a := (K : Int)) (b := 256) 8 1 (by omega) (by simp; omega) (by omega) (by omega) (by omega)
    have o1 := or_int (a := (K : Int) + 256) (b := (T : Int) * 512) 9 T (by omega) (by simp; omega) (by omega) (by omega) (by omega)
    have o2 := or_int (a := (K : Int) + 256 + (T : Int) * 512) (b := (S : Int) * 65536) 16 S (by omega) (by simp; omega) (by omega) (by omega) (by omega)
    go_enter Try.func58, Try.ntmps58
    go_wp2
    refine bodyPost_ret (v := .agg #[.int .u64 (lw : Int), .int .u64 K, .int .u64 T, .int .u64 S, .int .u64 1]) (by simp [results, Try.results58, go_sem, HL.out, lowN, mk1]) rfl ⟨rfl, ?_⟩
    (repeat (first | refine Below.setCell ?_ (by first | exact Nat.le_refl _ | (simp <;> omega)) _ | refine Below.alloc ?_ (by first | exact B.size | (have := B.size; simp <;> omega)) _)); exact B
theorem form_low (a b c d e : Int) (W : World) : (Instr.field 130 (.agg #[.int .u64 a, .int .u64 b, .int .u64 c, .int .u64 d, .int .u64 e]) 0).run Try.prog W = .ok (.int .u64 a) W := by kernel_rfl
set_option maxRecDepth 100000 in
theorem HWord_any (b : Hb) (v : UInt64) (r : Int) (hv : v = word b) (hr : r = hErr b) (w : World) :
    Calls Try.prog 30 #[.agg #[.int .i64 b.at_, .int .i64 b.size, .int .i64 b.kind, .int .i64 b.ty, .bool b.mark, .int .u64 b.next.toNat]] w fun e w' => e = .returned (.tuple #[.int .u64 v.toNat, .int .i64 r]) ∧ Below w.heap.size w w' := by
  have B : Below w.heap.size w w := Below.refl _ _
  have CT := Lib.hid (fun w => HCheck_any b r hr w)
  by_cases hb : BkOk b
  · rw [hErr_ok hb] at hr
    have hn := word_nat hb
    rw [← hv] at hn
    have hlt := lowN_lt hb
    obtain ⟨x, hx⟩ : ∃ x : UInt64, x = UInt64.ofNat (lowN b) := ⟨_, rfl⟩
    have hxn : x.toNat = lowN b := by rw [hx, UInt64.toNat_ofNat', Nat.mod_eq_of_lt (by omega)]
    have OT := Lib.hid (fun w => of_any b hb x.toNat hxn w)
    have ST := Lib.hid (fun w => sealed_any x v.toNat (by omega) (by rw [hn, wordN, ← hx, hxn]) w)
    subst hr
    have hf := fun W => form_low (x.toNat : Int) b.kind b.ty b.size (mk1 b.mark : Nat) W
    clear hv hb hn hlt hx hxn
    go_enter Try.func30, Try.ntmps30
    go_upto_region 1 with (fail)
    refine wp_gen (fun Wv => Bx Wv (w.heap.size) (84) (#[.int .i64 b.at_, .int .i64 b.size, .int .i64 b.kind, .int .i64 b.ty, .bool b.mark, .int .u64 b.next.toNat]) ∧ Below w.heap.size w Wv) ⟨((Bx.at_ (by simp))), ((Below.refl _ w).alloc (by simp <;> omega) _)⟩ ?_
    rintro wa1 ⟨g1, b⟩
    replace B := B.trans (b.mono B.size); clear b
    have c_g1 := g1.cell; have f_g1 := g1.free; have a_g1 := fun o => (g1.alloc o).cell; have d_g1 := fun o o2 => ((g1.alloc o).alloc o2).cell; have e_g1 := fun o => (g1.alloc o).free
    go_wp2_with fail
    refine (CT.out _).mono ?_
    rintro e wa2 ⟨rfl, b⟩
    try clear c_g1 f_g1 a_g1 d_g1 e_g1
    replace g1 := g1.below b; have c_g1 := g1.cell; have f_g1 := g1.free; have a_g1 := fun o => (g1.alloc o).cell; have d_g1 := fun o o2 => ((g1.alloc o).alloc o2).cell; have e_g1 := fun o => (g1.alloc o).free; replace B := B.trans (b.mono B.size); clear b
    go_wp2_with fail
    refine (OT.out _).mono ?_
    rintro e wa3 ⟨rfl, b⟩
    try clear c_g1 f_g1 a_g1 d_g1 e_g1
    replace g1 := g1.below b; have c_g1 := g1.cell; have f_g1 := g1.free; have a_g1 := fun o => (g1.alloc o).cell; have d_g1 := fun o o2 => ((g1.alloc o).alloc o2).cell; have e_g1 := fun o => (g1.alloc o).free; replace B := B.trans (b.mono B.size); clear b
    go_wp2_with fail
    refine (ST.out _).mono ?_
    rintro e wa4 ⟨rfl, b⟩
    try clear c_g1 f_g1 a_g1 d_g1 e_g1
    replace g1 := g1.below b; have c_g1 := g1.cell; have f_g1 := g1.free; have a_g1 := fun o => (g1.alloc o).cell; have d_g1 := fun o o2 => ((g1.alloc o).alloc o2).cell; have e_g1 := fun o => (g1.alloc o).free; replace B := B.trans (b.mono B.size); clear b
    go_wp2
    go_ret2
    exact ⟨rfl, B⟩
  · rw [hErr_no hb] at hr
    have hv0 : v = 0 := by rw [hv, word, if_neg hb]
    subst hr; subst hv0
    clear hv hb
    go_enter Try.func30, Try.ntmps30
    go_upto_region 1 with (fail)
    refine wp_gen (fun Wv => Bx Wv (w.heap.size) (84) (#[.int .i64 b.at_, .int .i64 b.size, .int .i64 b.kind, .int .i64 b.ty, .bool b.mark, .int .u64 b.next.toNat]) ∧ Below w.heap.size w Wv) ⟨((Bx.at_ (by simp))), ((Below.refl _ w).alloc (by simp <;> omega) _)⟩ ?_
    rintro wa1 ⟨g1, b⟩
    replace B := B.trans (b.mono B.size); clear b
    have c_g1 := g1.cell; have f_g1 := g1.free; have a_g1 := fun o => (g1.alloc o).cell; have d_g1 := fun o o2 => ((g1.alloc o).alloc o2).cell; have e_g1 := fun o => (g1.alloc o).free
    go_wp2_with fail
    refine (CT.out _).mono ?_
    rintro e wa2 ⟨rfl, b⟩
    try clear c_g1 f_g1 a_g1 d_g1 e_g1
    replace g1 := g1.below b; have c_g1 := g1.cell; have f_g1 := g1.free; have a_g1 := fun o => (g1.alloc o).cell; have d_g1 := fun o o2 => ((g1.alloc o).alloc o2).cell; have e_g1 := fun o => (g1.alloc o).free; replace B := B.trans (b.mono B.size); clear b
    go_wp2
    go_ret2
    exact ⟨rfl, B⟩
end Go.Proofs.Ytodbbacmdjcheaa
namespace Go.Proofs.Ytodbbacmdjcheaa
open Go.RowKit L02
theorem New_any (n : Int) (w : World) : Calls Try.prog 26 #[.int .i64 n] w (RetWE w (new n) (newErr n)) := by
  by_cases hs : SizeOk n
  · have h0 : 0 ≤ n := by have := hs.1; omega
    have h2 : n ≤ 2048 := hs.2.1
    obtain ⟨m, rfl⟩ := Int.eq_ofNat_of_zero_le h0
    have HS := Lib.hid hs; clear hs
    go_enter Try.func26, Try.ntmps26
    go_wp2_with (first
      | (go_at_call 53; refine (Size_any _ true (decide_eq_true HS.out).symm _).mono ?_; rintro e w' ⟨rfl, rfl⟩)
      | (at_make
         refine wpList_make (by rfl) rfl rfl rfl Try.underlying25 info_u64 rfl (by omega) (by omega) (Below.refl w.heap.size w) (Nat.le_refl _) ?_
         intro v1 w1 hown hbel))
    go_ret2
    refine ⟨v1, ?_, OwnW.of hown ?_, hbel⟩
    · simp [newErr, HS.out]
    · simp [new, HS.out, u64]
  · have HS := Lib.hid hs; clear hs
    go_enter Try.func26, Try.ntmps26
    go_wp2_with (go_at_call 53; refine (Size_any _ false (decide_eq_false HS.out).symm _).mono ?_; rintro e w' ⟨rfl, rfl⟩)
    go_ret2
    refine ⟨_, ?_, OwnW.of (World.ownsRow_nil _ _ _ _) ?_, Below.refl _ _⟩
    · simp [newErr, HS.out]
    · simp [new, HS.out]
def RetW (w : World) (l : List UInt64) (e : Ending) (w' : World) : Prop := ∃ v, e = .returned v ∧ OwnW w' w.heap.size 64 v l ∧ Below w.heap.size w w'
theorem Twin_any (v : Value) (l : List UInt64) (w : World) (h : Words w v l) (hl : l.length ≤ 1048576) : Calls Try.prog 65 #[v] w (RetW w l) := by
  have H := Lib.hid h; clear h
  go_enter Try.func65, Try.ntmps65
  go_wp2_with (at_builtin
               refine wpList_append (by rfl) rfl rfl rfl Try.underlying25 info_u64 rfl (by omega) (lit0_own (Nat.le_refl _)) (by exact H.out.alloc _) (one_u64s _) (by omega) (by omega) ((Below.refl _ w).alloc (Nat.le_refl _) _) (Nat.le_refl _) ?_
               intro v1 w1 hown hbel hv)
  go_ret
  exact ⟨v1, rfl, OwnW.of hown (by simp), hbel⟩
end Go.Proofs.Ytodbbacmdjcheaa
