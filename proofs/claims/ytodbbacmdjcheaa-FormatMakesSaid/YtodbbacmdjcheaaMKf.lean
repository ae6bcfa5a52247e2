/- Contracts of the functions that the laws 'K' reach, part 6. No condition. -/
import Derived.Test.YtodbbacmdjcheaaMKe
set_option linter.unusedVariables false
set_option linter.unusedSimpArgs false
namespace Go.Proofs.Ytodbbacmdjcheaa
open Go.RowKit L02 L05 L06 L13 L14 L19 L73
set_option maxRecDepth 100000 in
set_option maxHeartbeats 2000000 in
theorem Asked_any (n : Int) (tv : Value) (T : List (List UInt8)) (r : Int) (hr : r = imgErr n T) (w : World) (h : Typs w tv T) : Calls Try.prog 18 #[.int .i64 n, tv] w fun e w' => e = .returned (.int .i64 r) ∧ w = w' := by
  subst hr
  have TL := h.len
  have HT := Lib.hid h
  obtain ⟨t, ht⟩ : ∃ t, t = T.length := ⟨_, rfl⟩
  rw [← ht] at TL
  obtain ⟨b, hb⟩ : ∃ b, b = decide (SizeOk n) := ⟨_, rfl⟩
  have ST := Lib.hid (fun w => SizeR_any n b hb w)
  by_cases hs : ¬ SizeOk n
  · rw [decide_eq_false hs] at hb
    subst hb
    have hE : imgErr n T = 2 := by rw [imgErr, if_pos hs]
    rw [hE]
    clear hs hE ht h
    go_enter Try.func18, Try.ntmps18
    go_wp2_with (go_at_call 37; refine (ST.out _).mono ?_; rintro e w' ⟨rfl, rfl⟩)
    go_ret
    exact ⟨rfl, rfl⟩
  · have hs' := Decidable.not_not.1 hs
    rw [decide_eq_true hs'] at hb
    subst hb
    by_cases h8 : 8 < T.length
    · have hE : imgErr n T = 4 := by rw [imgErr, if_neg hs, if_pos h8]
      rw [hE]
      have h8' : (8 : Int) < t := by omega
      clear hs hs' hE ht h h8
      go_enter Try.func18, Try.ntmps18
      go_wp2_with (go_at_call 37; refine (ST.out _).mono ?_; rintro e w' ⟨rfl, rfl⟩)
      go_ret
      exact ⟨rfl, rfl⟩
    · have hE : imgErr n T = errT T := by rw [imgErr, if_neg hs, if_neg h8]
      have h8' : (t : Int) ≤ 8 := by omega
      have HE := Lib.hid hE; have HTL := Lib.hid ht
      clear hs hs' hE ht h h8
      go_enter Try.func18, Try.ntmps18
      go_wp2_with (go_at_call 37; refine (ST.out _).mono ?_; rintro e w' ⟨rfl, rfl⟩)
      go_loopw [5] (fun i wr => ∃ k : Nat, k ≤ t ∧ i = .int .i64 k ∧ Hid (wr = w) ∧ Hid (∀ i l', i < k → T[i]? = some l' → kErr l' = 0)) (fun i _ => t - (intOf i).toNat)
      case atStart => exact ⟨0, Nat.zero_le _, rfl, Lib.hid rfl, Lib.hid (fun i l' hi => by omega)⟩
      case round =>
        obtain ⟨k, hk, rfl, hw, hok⟩ := hrel
        obtain rfl : wr = w := hw.out
        by_cases hlt : k < t
        · obtain ⟨ad, x, tl, hix, hcx, htl, hbx⟩ := HT.out.at_ (k := k) (by rw [← HTL.out]; exact hlt)
          have one := hbx.out.oneCell
          go_wp2_with fail
          refine (KCheckR_any x tl (kErr tl) rfl wr hbx.out).mono ?_
          rintro e w2 ⟨rfl, rfl⟩
          by_cases h0 : kErr tl = 0
          · rw [h0]
            have H0 := Lib.hid h0; clear h0
            go_wp2
            go_roundw
            case rel =>
              refine ⟨k + 1, by omega, by go_num, Lib.hid (by simp), Lib.hid fun i l' hi hl => ?_⟩
              by_cases e : i = k
              · subst e; rw [htl.out] at hl; cases hl; exact H0.out
              · exact hok.out i l' (by omega) hl
            case measure => simp [intOf]; omega
          · have hne := errT_take T k tl hok.out htl.out h0
            have HNE := Lib.hid hne; clear hne
            go_wp2
            go_ret
            exact ⟨by rw [HE.out, HNE.out]; rfl, rfl⟩
        · obtain rfl : k = t := by omega
          go_wp2
          go_ret
          exact ⟨by rw [HE.out, errT_none T (fun i l' hi hl => hok.out i l' (by rw [HTL.out]; exact hi) hl)]; rfl, rfl⟩
end Go.Proofs.Ytodbbacmdjcheaa
namespace Go.Proofs.Ytodbbacmdjcheaa.L16
open L02 L14 L15 L19
def free (L : List Hb) : List Hb := L.filter fun b => decide (b.kind = 2)
def freeL (l : List UInt64) : List Hb := free (allL l)
end Go.Proofs.Ytodbbacmdjcheaa.L16
namespace Go.Proofs.Ytodbbacmdjcheaa.L75
open L02 L05 L06 L07 L13 L14 L15 L16 L19 L73
end Go.Proofs.Ytodbbacmdjcheaa.L75
namespace Go.Proofs.Ytodbbacmdjcheaa
open Go.RowKit L02 L05 L06
end Go.Proofs.Ytodbbacmdjcheaa
namespace Go.Proofs.Ytodbbacmdjcheaa
open Go.RowKit L02 L05 L06
set_option maxHeartbeats 1000000 in
theorem Written_any (W T : Int) (w : World) (h : SupOk W T) : Calls Try.prog 60 #[supV W T] w fun e w' => ∃ v, e = .returned v ∧ OwnW w' w.heap.size 64 v (wordsOf W T) ∧ Below w.heap.size w w' := by
  have h1 := h.1.1; have h2 := h.1.2.1; have h3 := h.2.1; have h4 := h.2.2
  have hu1 := u_nat (n := W) (by omega) (by omega)
  have hu2 := u_nat (n := T) (by omega) (by omega)
  have HU1 := Lib.hid hu1; have HU2 := Lib.hid hu2; clear hu1 hu2 h
  unfold supV
  go_enter Try.func60, Try.ntmps60
  go_wp2_with fail
  refine calls_gen (fun W' => W'.ownsRow w.heap.size 64 1 (.slice (some ⟨w.heap.size + 1, 0, none⟩) 7 7) 7 ((body W T).map u64) ∧ Below w.heap.size w W') ⟨?_, ((Below.refl _ w).alloc (Nat.le_refl _) _).alloc (by simp) _⟩ ?_
  · have := World.ownsRow_lit (base := w.heap.size) (size := 1) (e := 64) (w.alloc (.cells #[.int .i64 W, .int .i64 T] 80)) #[.int .u64 32777959566500194, .int .u64 1, .int .u64 W, .int .u64 T, .int .u64 0, .int .u64 0, .int .u64 0] 7 (by simp) (by simp [maxLen]) rfl
    rw [alloc_sz] at this
    have e : (body W T).map u64 = [.int .u64 32777959566500194, .int .u64 1, .int .u64 W, .int .u64 T, .int .u64 0, .int .u64 0, .int .u64 0] := by simp [body, u64, HU1.out, HU2.out, magic]
    rw [e]
    exact this
  rintro w1 ⟨o1, B⟩
  refine (SumR_any _ _ _ (OwnW.rd (OwnW.of o1 rfl)) (by simp [body])).mono ?_
  rintro e w2 ⟨rfl, b⟩
  replace o1 := own_below o1 b; replace B := B.trans (b.mono B.size); clear b
  have HO := Lib.hid o1; have HB := Lib.hid B; clear o1 B
  obtain ⟨S, hS⟩ : ∃ S, S = sum (body W T) := ⟨_, rfl⟩
  rw [← hS]
  have HS := Lib.hid hS; clear hS
  go_wp2_with (at_builtin; refine wpList_append (by rfl) rfl rfl rfl Try.underlying25 info_u64 rfl (by omega) (by exact own_below HO.out ((Below.refl _ _).alloc (Nat.le_refl _) _)) (by exact lit_rd) (by simp [Value.oneCell']) (by omega) (by omega) (by exact HB.out.alloc HB.out.size _) (Nat.le_refl _) ?_; intro v1 w3 o3 B3 g3; clear g3)
  go_ret
  refine ⟨v1, rfl, OwnW.of o3 ?_, B3⟩
  rw [wordsOf, List.map_append, HS.out]; rfl
end Go.Proofs.Ytodbbacmdjcheaa
namespace Go.Proofs.Ytodbbacmdjcheaa
open Go.RowKit L02 L05 L06 L07
end Go.Proofs.Ytodbbacmdjcheaa
namespace Go.Proofs.Ytodbbacmdjcheaa
open Go.RowKit L01 L02 L05 L14
theorem val_mod (x f n : Nat) : val x f n = x / 2 ^ f % 2 ^ n := rfl
set_option maxRecDepth 100000 in
theorem PartR32_any (v : Value) (l : List UInt64) (r : Nat) (hr : r = (sum l).toNat % 4294967296) (hl : l.length ≤ 2048) (w : World) (h : Words w v l) :
    Calls Try.prog 88 #[v, .int .i64 32] w fun e w' => e = .returned (.int .u64 (r : Int)) ∧ Below w.heap.size w w' := by
  obtain ⟨S, hS⟩ : ∃ S, S = sum l := ⟨_, rfl⟩
  rw [← hS] at hr
  have hsl := toNat_lt S
  have VT := Lib.hid (fun w => Value_any S.toNat 0 32 r (by rw [hr, val_mod]; omega) w (by omega) (by omega) (by omega))
  have HO : Hid (∀ w, Words w v l → Calls Try.prog 85 #[v] w fun e w' => e = .returned (.int .u64 S.toNat) ∧ Below w.heap.size w w') := by
    rw [hS]; exact Lib.hid (fun w h => SumR_any v l w h (by omega))
  have B : Below w.heap.size w w := Below.refl _ _
  have H := Lib.hid h; clear h hr hS
  go_enter Try.func88, Try.ntmps88
  go_wp2_with fail
  refine (HO.out _ (H.out.below B)).mono ?_
  rintro e wa1 ⟨rfl, b⟩
  replace B := B.trans (b.mono B.size); clear b
  go_wp2_with fail
  refine (VT.out _).mono ?_
  rintro e w' ⟨rfl, rfl⟩
  go_wp2
  go_ret
  exact ⟨rfl, B⟩
theorem wth_plain {w f k v : Nat} (hw : w < 2 ^ f) (hv : v < 2 ^ k) : wth w f k v = w + v * 2 ^ f := by
  have h1 : w < 2 ^ (f + k) := Nat.lt_of_lt_of_le hw (Nat.pow_le_pow_right (by omega) (by omega))
  rw [wth, Nat.div_eq_of_lt h1, Nat.mod_eq_of_lt hw, Nat.mod_eq_of_lt hv]; omega
set_option maxRecDepth 100000 in
set_option maxHeartbeats 1000000 in
theorem WordHR_any (b : Hb) (hb : BkOk b) (v : UInt64) (hv : v = word b) (w : World) :
    Calls Try.prog 62 #[.int .i64 b.kind, .bool b.mark, .int .i64 b.ty, .int .i64 b.size] w fun e w' => e = .returned (.int .u64 v.toNat) ∧ Below w.heap.size w w' := by
  have B : Below w.heap.size w w := Below.refl _ _
  obtain ⟨h1, h2, h3, h4, h5, h6⟩ := hb.bounds
  have hn := word_nat hb
  rw [← hv] at hn
  have hlt := lowN_lt hb
  obtain ⟨lw, hlw⟩ : ∃ lw, lw = lowN b := ⟨_, rfl⟩
  rw [wordN, ← hlw] at hn
  rw [← hlw] at hlt
  obtain ⟨x, hx⟩ : ∃ x : UInt64, x = UInt64.ofNat lw := ⟨_, rfl⟩
  have hxn : x.toNat = lw := by rw [hx, UInt64.toNat_ofNat', Nat.mod_eq_of_lt (by omega)]
  rw [← hx] at hn
  obtain ⟨p, hp⟩ : ∃ p, p = partN x := ⟨_, rfl⟩
  have hpl : p < 4294967296 := by rw [hp]; exact part_lt x
  rw [← hp] at hn
  have PT := Lib.hid (fun v w h => PartR32_any v [x] p hp (by simp) w h)
  obtain ⟨at_, size, kind, ty, mark, next⟩ := b
  dsimp only at *
  obtain ⟨S, rfl⟩ := Int.eq_ofNat_of_zero_le (show 0 ≤ size by omega)
  obtain ⟨K, rfl⟩ := Int.eq_ofNat_of_zero_le (show 0 ≤ kind by omega)
  obtain ⟨T, rfl⟩ := Int.eq_ofNat_of_zero_le h5
  have w1 : IntKind.u64.wrap (K : Int) = K := by rw [wrap_u64]; omega
  have w2 : IntKind.u64.wrap (T : Int) = T := by rw [wrap_u64]; omega
  have w3 : IntKind.u64.wrap (S : Int) = S := by rw [wrap_u64]; omega
  have hw5 : v.toNat = wth lw 32 32 p := by rw [wth_plain (by omega) (by omega), hn]
  have A5 := Lib.hid (fun w => With_any lw 32 32 p v.toNat hw5 w (by omega) (by omega) (by omega) (by omega))
  have A1 := Lib.hid (fun w => With_any 0 0 8 K K (by rw [wth_plain (by omega) (by omega)]; omega) w (by omega) (by omega) (by omega) (by omega))
  clear hv hb hn hx hp hw5
  cases mark
  · have e3 : lw = K + T * 512 + S * 65536 := by rw [hlw, lowN, mk1]; simp
    have A3 := Lib.hid (fun w => With_any K 9 7 T (K + T * 512) (by rw [wth_plain (by omega) (by omega)]) w (by omega) (by omega) (by omega) (by omega))
    have A4 := Lib.hid (fun w => With_any (K + T * 512) 16 16 S lw (by rw [wth_plain (by omega) (by omega), e3]) w (by omega) (by omega) (by omega) (by omega))
    have HX := Lib.hid hxn
    clear hlw e3 hxn
    go_enter Try.func62, Try.ntmps62
    go_wp2_with fail
    refine (A1.out _).mono ?_
    rintro e w' ⟨rfl, rfl⟩
    go_wp2_with fail
    refine (A3.out _).mono ?_
    rintro e w' ⟨rfl, rfl⟩
    go_wp2_with fail
    refine (A4.out _).mono ?_
    rintro e w' ⟨rfl, rfl⟩
    go_wp2_with fail
    refine (PT.out _ _ (by rw [← HX.out]; exact lit_one x rfl)).mono ?_
    rintro e w' ⟨rfl, b⟩
    replace B := (B.alloc B.size _).trans (b.mono (by simp))
    go_wp2_with fail
    refine (A5.out _).mono ?_
    rintro e w' ⟨rfl, rfl⟩
    go_wp2
    go_ret
    exact ⟨rfl, B⟩
  · have e3 : lw = K + 256 + T * 512 + S * 65536 := by rw [hlw, lowN, mk1]; simp
    have A2 := Lib.hid (fun w => With_any K 8 1 1 (K + 256) (by rw [wth_plain (by omega) (by omega)]) w (by omega) (by omega) (by omega) (by omega))
    have A3 := Lib.hid (fun w => With_any (K + 256) 9 7 T (K + 256 + T * 512) (by rw [wth_plain (by omega) (by omega)]) w (by omega) (by omega) (by omega) (by omega))
    have A4 := Lib.hid (fun w => With_any (K + 256 + T * 512) 16 16 S lw (by rw [wth_plain (by omega) (by omega), e3]) w (by omega) (by omega) (by omega) (by omega))
    have HX := Lib.hid hxn
    clear hlw e3 hxn
    go_enter Try.func62, Try.ntmps62
    go_wp2_with fail
    refine (A1.out _).mono ?_
    rintro e w' ⟨rfl, rfl⟩
    go_wp2_with fail
    refine (A2.out _).mono ?_
    rintro e w' ⟨rfl, rfl⟩
    go_wp2_with fail
    refine (A3.out _).mono ?_
    rintro e w' ⟨rfl, rfl⟩
    go_wp2_with fail
    refine (A4.out _).mono ?_
    rintro e w' ⟨rfl, rfl⟩
    go_wp2_with fail
    refine (PT.out _ _ (by rw [← HX.out]; exact lit_one x rfl)).mono ?_
    rintro e w' ⟨rfl, b⟩
    replace B := (B.alloc B.size _).trans (b.mono (by simp))
    go_wp2_with fail
    refine (A5.out _).mono ?_
    rintro e w' ⟨rfl, rfl⟩
    go_wp2
    go_ret
    exact ⟨rfl, B⟩
end Go.Proofs.Ytodbbacmdjcheaa
namespace Go.Proofs.Ytodbbacmdjcheaa
open Go Go.RowKit
/-- the first d of the operations ks are done, the world is Ws d; the read r comes before the operation number m. -/
def FL (ks : List Nat) (Ws : Nat → World) (r m : Nat) : (Nat → Bool) → World → Prop := fun f W =>
  ∃ d, d ≤ ks.length ∧ (∀ i k, ks[i]? = some k → f k = decide (i < d)) ∧ W = Ws d ∧ (m < d → f r = true)
section
variable {ks : List Nat} {Ws : Nat → World} {r m : Nat}
theorem FL.start : FL ks Ws r m (fun _ => false) (Ws 0) := ⟨0, Nat.zero_le _, fun i k _ => by simp, rfl, fun h => by omega⟩
theorem FL.done {W : World} (h : FL ks Ws r m (fun _ => true) W) : W = Ws ks.length := by
  obtain ⟨d, h1, h2, h3, h4⟩ := h
  rw [h3]
  congr 1
  by_cases hd : d = ks.length
  · exact hd
  · have hlt : d < ks.length := by omega
    have := h2 d ks[d] (List.getElem?_eq_getElem hlt)
    simp at this
theorem FL.step {i k : Nat} (hk : ks[i]? = some k) (hn : ks.Nodup) {f : Nat → Bool} {W : World} (h : FL ks Ws r m f W) (h0 : f k = false) (hp : ∀ p, i = p + 1 → ∀ k', ks[p]? = some k' → f k' = true) (hm : i = m → f r = true) :
    W = Ws i ∧ FL ks Ws r m (fun j => j == k || f j) (Ws (i + 1)) := by
  obtain ⟨d, h1, h2, h3, h4⟩ := h
  have hil : i < ks.length := (List.getElem?_eq_some_iff.1 hk).1
  have hd1 : ¬ i < d := by have := h2 i k hk; rw [h0] at this; simpa using this.symm
  have hd2 : i ≤ d := by
    rcases i with _ | p
    · omega
    · have hp' : ks[p]? = some ks[p] := List.getElem?_eq_getElem (by omega)
      have e1 := hp p rfl _ hp'
      rw [h2 p _ hp'] at e1
      have := of_decide_eq_true e1
      omega
  obtain rfl : d = i := by omega
  refine ⟨h3, d + 1, by omega, fun j k' hk' => ?_, rfl, fun hmd => ?_⟩
  · by_cases hj : j = d
    · subst hj
      rw [hk] at hk'; injection hk' with hk'; subst hk'
      simp
    · have hne : k' ≠ k := fun e => by
        subst e
        exact hj ((List.getElem?_inj (List.getElem?_eq_some_iff.1 hk').1 hn).1 (hk'.trans hk.symm))
      have e1 : (k' == k) = false := by rw [beq_eq_false_iff_ne]; exact hne
      simp only [e1, Bool.false_or]
      rw [h2 j k' hk']
      have : (j < d) = (j < d + 1) := by rw [eq_iff_iff]; omega
      simp only [this]
  · by_cases hmi : d = m
    · simp [hm hmi]
    · simp [h4 (by omega)]
theorem FL.read (hr : r ∉ ks) {f : Nat → Bool} {W : World} (h : FL ks Ws r m f W) (h0 : f r = false) : (∃ d, d ≤ ks.length ∧ d ≤ m ∧ W = Ws d) ∧ FL ks Ws r m (fun j => j == r || f j) W := by
  obtain ⟨d, h1, h2, h3, h4⟩ := h
  have hdm : d ≤ m := by
    rcases Nat.lt_or_ge m d with h | h
    · rw [h4 h] at h0; cases h0
    · exact h
  refine ⟨⟨d, h1, hdm, h3⟩, d, h1, fun i k hk => ?_, h3, fun _ => by simp⟩
  have hne : (k == r) = false := by rw [beq_eq_false_iff_ne]; exact fun e => hr (e ▸ List.mem_of_getElem? hk)
  simp only [hne, Bool.false_or]
  exact h2 i k hk
theorem FL.all {p : World → Prop} (h : ∀ d, d ≤ ks.length → p (Ws d)) (x : FXN (FL ks Ws r m)) : p x.W := by
  obtain ⟨W, f, d, h1, _, h3, _⟩ := x
  subst h3; exact h d h1
end
section
variable {P : Program} {ops : Array Oper} {rest : List Oper} {o : Oper} {a : Act} {Q : Act → Prop} {F : (Nat → Bool) → World → Prop} {js : List Nat} {k : Nat} {md : Region.Mode}
end
end Go.Proofs.Ytodbbacmdjcheaa
namespace Go.Proofs.Ytodbbacmdjcheaa
open Go.RowKit L02 L14 L15
def bkL (b : Hb) : List Value := [.int .i64 b.at_, .int .i64 b.size, .int .i64 b.kind, .int .i64 b.ty, .bool b.mark, .int .u64 b.next.toNat]
def tabB (L : List Hb) : List Value := L.flatMap bkL
theorem tabB_len (L : List Hb) : (tabB L).length = L.length * 6 := by
  induction L with
  | nil => rfl
  | cons s L ih => rw [tabB, List.flatMap_cons, List.length_append, ← tabB, ih]; simp [bkL]; omega
theorem tabB_get : ∀ (L : List Hb) (k : Nat) (s : Hb), L[k]? = some s → ∀ i, i < 6 → (tabB L)[k * 6 + i]? = (bkL s)[i]?
  | [], _, _, h, _, _ => by cases h
  | t :: L, 0, s, h, i, hi => by
    simp at h; subst h
    rw [tabB, List.flatMap_cons, Nat.zero_mul, Nat.zero_add, List.getElem?_append_left (by simpa [bkL] using hi)]
  | t :: L, k + 1, s, h, i, hi => by
    rw [tabB, List.flatMap_cons, List.getElem?_append_right (by simp [bkL]; omega)]
    rw [show (k + 1) * 6 + i - (bkL t).length = k * 6 + i by simp [bkL]; omega]
    exact tabB_get L k s (by simpa using h) i hi
theorem size_block : (Try.prog.info? 84).map (·.size) = some 6 := by kernel_rfl
/-- A slice of blocks. -/
def Blks (w : World) (v : Value) (L : List Hb) : Prop := Rd w 6 v L.length (tabB L)
def OwnK (w : World) (base : Nat) (v : Value) (L : List Hb) : Prop := w.ownsRow base 84 6 v L.length (tabB L)
theorem OwnK.rd {w : World} {base : Nat} {v : Value} {L : List Hb} (h : OwnK w base v L) : Blks w v L := Rd.of_own h
theorem Blks.below {w w' : World} {v : Value} {L : List Hb} (h : Blks w v L) (hb : Below w.heap.size w w') : Blks w' v L := Rd.below h hb
theorem OwnK.below {w w' : World} {base : Nat} {v : Value} {L : List Hb} (h : OwnK w base v L) (hb : Below w.heap.size w w') : OwnK w' base v L := own_below h hb
theorem OwnK.mono {w : World} {base base' : Nat} {v : Value} {L : List Hb} (h : OwnK w base v L) (hb : base' ≤ base) : OwnK w base' v L := own_mono h hb
theorem OwnK.nil (w : World) (base : Nat) : OwnK w base (.slice none 0 0) [] := World.ownsRow_nil w base _ 6
theorem Blks.nil (w : World) : Blks w (.slice none 0 0) [] := (OwnK.nil w 0).rd
theorem OwnK.of {w : World} {B n : Nat} {v : Value} {xs : List Value} {L : List Hb} (h : w.ownsRow B 84 6 v n xs) (hx : xs = tabB L) : OwnK w B v L := by
  subst hx
  have hn : n = L.length := by have := h.1; rw [tabB_len] at this; omega
  subst hn; exact h
theorem Blks.len {w : World} {v : Value} {L : List Hb} (h : Blks w v L) : ∀ ty W, (Builtin.len_ #[92] ty #[v]).run Try.prog W = .ok (.int .i64 (L.length : Int)) W := Rd.len h Try.underlying92
theorem Blks.len_le {w : World} {v : Value} {L : List Hb} (h : Blks w v L) : L.length ≤ 9223372036854775807 := Rd.len_le h
theorem Blks.form {w : World} {v : Value} {L : List Hb} (h : Blks w v L) : ∃ A c, v = .slice A L.length c := by
  obtain ⟨A, c, e, _⟩ := h; exact ⟨A, c, e⟩
/-- a block of a slice -/
theorem Blks.at_ {w : World} {v : Value} {L : List Hb} (h : Blks w v L) {k : Nat} (hk : k < L.length) :
    ∃ b o s, (∀ W, (Instr.indexAt 92 v (.int .i64 (k : Int))).run Try.prog W = .ok (.pointer (some ⟨b, o, none⟩)) W) ∧ w.cell? ⟨b, o, none⟩ = some (.int .i64 s.at_) ∧ w.cell? ⟨b, o + 1, none⟩ = some (.int .i64 s.size) ∧ w.cell? ⟨b, o + 2, none⟩ = some (.int .i64 s.kind) ∧ w.cell? ⟨b, o + 3, none⟩ = some (.int .i64 s.ty) ∧ w.cell? ⟨b, o + 4, none⟩ = some (.bool s.mark) ∧ w.cell? ⟨b, o + 5, none⟩ = some (.int .u64 s.next.toNat) ∧ Hid (L[k]? = some s) ∧ b < w.heap.size := by
  have hix := fun W => Rd.ixN (P := Try.prog) h Try.underlying92 size_block hk W
  obtain ⟨b, o, c, rfl, hb, hc, hcell⟩ := Rd.form h (by omega)
  have hs : L[k]? = some L[k] := List.getElem?_eq_getElem hk
  have t0 := tabB_get L k _ hs 0 (by omega)
  have t1 := tabB_get L k _ hs 1 (by omega)
  have t2 := tabB_get L k _ hs 2 (by omega)
  have t3 := tabB_get L k _ hs 3 (by omega)
  have t4 := tabB_get L k _ hs 4 (by omega)
  have t5 := tabB_get L k _ hs 5 (by omega)
  exact ⟨b, o + k * 6, L[k], fun W => hix W, hcell _ _ t0, hcell _ _ t1, hcell _ _ t2, hcell _ _ t3, hcell _ _ t4, hcell _ _ t5, Lib.hid hs, hb⟩
end Go.Proofs.Ytodbbacmdjcheaa
namespace Go.Proofs.Ytodbbacmdjcheaa
open Go.RowKit L01 L02 L05 L14 L15
end Go.Proofs.Ytodbbacmdjcheaa
namespace Go.Proofs.Ytodbbacmdjcheaa
open Go.RowKit L01 L02 L05 L14 L15
end Go.Proofs.Ytodbbacmdjcheaa
namespace Go.Proofs.Ytodbbacmdjcheaa
open Go.RowKit L01 L02 L05 L14 L15
end Go.Proofs.Ytodbbacmdjcheaa
namespace Go.Proofs.Ytodbbacmdjcheaa
open Go.RowKit L01 L02 L05 L14 L15
end Go.Proofs.Ytodbbacmdjcheaa
namespace Go.Proofs.Ytodbbacmdjcheaa
open Go.RowKit
end Go.Proofs.Ytodbbacmdjcheaa
namespace Go.Proofs.Ytodbbacmdjcheaa
open Go.RowKit L01 L02 L05 L14 L15
/-- A slice of bools of the call's own. -/
def OwnBl (w : World) (base : Nat) (v : Value) (R : List Bool) : Prop := w.ownsRow base 4 1 v R.length (R.map .bool)
theorem OwnBl.below {w w' : World} {base : Nat} {v : Value} {R : List Bool} (h : OwnBl w base v R) (hb : Below w.heap.size w w') : OwnBl w' base v R := own_below h hb
theorem OwnBl.of {w : World} {B n : Nat} {v : Value} {xs : List Value} {R : List Bool} (h : w.ownsRow B 4 1 v n xs) (hx : xs = R.map .bool) : OwnBl w B v R := by
  subst hx
  have hn : n = R.length := by have := h.1; simp at this; omega
  subst hn; exact h
end Go.Proofs.Ytodbbacmdjcheaa
namespace Go.Proofs.Ytodbbacmdjcheaa
open Go.RowKit Go.Maps
def i64Ok (a : Int) : Prop := -9223372036854775808 ≤ a ∧ a ≤ 9223372036854775807
theorem lit_wf {a : Int} (h : i64Ok a) : (Lit.int .i64 a).wf = true := by
  unfold i64Ok at h
  have e1 : IntKind.i64.min = -9223372036854775808 := by decide
  have e2 : IntKind.i64.max = 9223372036854775807 := by decide
  simp [Lit.wf, e1, e2]
  omega
/-- block g is a map of at most n entries that yields the literal f a at a, z0 where nothing stands -/
def MapL (P : Program) (k e : TypeId) (z0 : Lit) (W : World) (g n : Nat) (f : Int → Lit) : Prop :=
  ∃ D : DataW Unit, W.ownsMap P k (plainElem P e) g n D ∧ ∀ a, D.atKey (.int .i64 a) (.lit z0) = .lit (f a)
section
variable {P : Program} {k e : TypeId} {z0 : Lit} {W : World} {g n : Nat} {f : Int → Lit}
theorem MapL.made (W : World) : MapL P k e z0 (W.alloc (.map #[] 0)) W.heap.size 0 (fun _ => z0) :=
  ⟨.map [], World.ownsMap_made W P k _, fun a => rfl⟩
theorem MapL.lt (h : MapL P k e z0 W g n f) : g < W.heap.size := by obtain ⟨D, h1, _⟩ := h; exact h1.lt
theorem MapL.kept {W' : World} {row : Option Nat} (h : MapL P k e z0 W g n f) (hg : W.grownBy W' row) (hne : some g ≠ row) : MapL P k e z0 W' g n f := by
  obtain ⟨D, h1, h2⟩ := h; exact ⟨D, h1.kept hg hne, h2⟩
theorem MapL.below {W' : World} (h : MapL P k e z0 W g n f) (hb : Below W.heap.size W W') : MapL P k e z0 W' g n f := by
  obtain ⟨D, ⟨es, clock, hh, F, hs, hD⟩, h2⟩ := h
  exact ⟨D, ⟨es, clock, (hb.block g (Array.getElem?_eq_some_iff.1 hh).1).trans hh, F, hs, hD⟩, h2⟩
theorem MapL.mono {n' : Nat} (h : MapL P k e z0 W g n f) (hn : n ≤ n') : MapL P k e z0 W g n' f := by
  obtain ⟨D, h1, h2⟩ := h; exact ⟨D, h1.mono hn, h2⟩
/-- a store, as an equation on its run -/
theorem MapL.put {t : TypeId} (h : MapL P k e z0 W g n f) (hk : P.underlying k = some (.int .i64)) (ht : P.underlying t = some (.map k e)) (hn : n < maxLen) {a : Int} (ha : i64Ok a) {v : Value} {l : Lit} (hv : plainElem (H := Unit) P e v = some (.lit l, [])) :
    ∃ W', (Instr.mapUpdate t (.map (some g)) (.int .i64 a) v).run P W = .ok () W' ∧ MapL P k e z0 W' g (n + 1) (fun b => if b = a then l else f b) ∧ W.grownBy W' (some g) := by
  obtain ⟨D, h1, h2⟩ := h
  obtain ⟨W', r1, r2, r3⟩ := h1.update (int_keyed hk) ht hn (keyOf_int_mk hk (lit_wf ha)) hv
  refine ⟨W', r1, ⟨_, r2, fun b => ?_⟩, r3⟩
  by_cases hb : b = a
  · subst hb
    show _ = DataW.lit (if b = b then l else f b)
    rw [if_pos rfl]
    exact atKey_put_same (h1.isMap) ((int_keyed hk).key (keyOf_int_mk hk (lit_wf ha))) _ _
  · show _ = DataW.lit (if b = a then l else f b)
    rw [if_neg hb, atKey_put_other (by intro e; injection e with _ e; exact hb e), h2]
end
end Go.Proofs.Ytodbbacmdjcheaa
namespace Go.Proofs.Ytodbbacmdjcheaa
open Go.RowKit L01 L02 L18
end Go.Proofs.Ytodbbacmdjcheaa
namespace Go.Proofs.Ytodbbacmdjcheaa
open Go.RowKit L01 L02 L18
end Go.Proofs.Ytodbbacmdjcheaa
namespace Go.Proofs.Ytodbbacmdjcheaa
open Go.RowKit L01 L02 L18
def slC (s : Sl) : List Value := [.int .i64 s.gen, .bool s.used, .int .i64 s.at_]
def tabL (L : List Sl) : List Value := L.flatMap slC
def tab (L : List Sl) : Array Value := (tabL L).toArray
theorem tabL_len (L : List Sl) : (tabL L).length = L.length * 3 := by
  induction L with
  | nil => rfl
  | cons s L ih => rw [tabL, List.flatMap_cons, List.length_append, ← tabL, ih]; simp [slC]; omega
theorem tabL_get : ∀ (L : List Sl) (k : Nat) (s : Sl), L[k]? = some s → ∀ i, i < 3 → (tabL L)[k * 3 + i]? = (slC s)[i]?
  | [], _, _, h, _, _ => by cases h
  | t :: L, 0, s, h, i, hi => by
    simp at h; subst h
    rw [tabL, List.flatMap_cons, Nat.zero_mul, Nat.zero_add, List.getElem?_append_left (by simpa [slC] using hi)]
  | t :: L, k + 1, s, h, i, hi => by
    rw [tabL, List.flatMap_cons, List.getElem?_append_right (by simp [slC]; omega)]
    rw [show (k + 1) * 3 + i - (slC t).length = k * 3 + i by simp [slC]; omega]
    exact tabL_get L k s (by simpa using h) i hi
theorem tab_size (L : List Sl) : (tab L).size = L.length * 3 := by simp [tab, tabL_len]
/-- the cells cs have the first k slots of S -/
def TabTo (S : List Sl) (k : Nat) (cs : Array Value) : Prop := cs.size = 48 ∧ ∀ j, j < k * 3 → cs[j]? = (tabL S)[j]?
theorem TabTo.zero (S : List Sl) {cs : Array Value} (h : cs.size = 48) : TabTo S 0 cs := ⟨h, fun j hj => by omega⟩
theorem TabTo.succ {S : List Sl} {k : Nat} {cs : Array Value} {s : Sl} (h : TabTo S k cs) (hs : S[k]? = some s) (hk : k < 16) : TabTo S (k + 1) (putL cs (k * 3) (slC s)) := by
  refine ⟨by rw [putL_size]; exact h.1, fun j hj => ?_⟩
  rw [putL_get _ _ _ _ (by rw [h.1]; simp [slC]; omega)]
  by_cases h1 : k * 3 ≤ j
  · rw [if_pos ⟨h1, by simp [slC]; omega⟩]
    have := tabL_get S k s hs (j - k * 3) (by omega)
    rw [show k * 3 + (j - k * 3) = j by omega] at this
    exact this.symm
  · rw [if_neg (by omega)]
    exact h.2 j (by omega)
theorem TabTo.done {S : List Sl} {cs : Array Value} (h : TabTo S 16 cs) (hS : S.length = 16) : cs = tab S := by
  apply Array.ext_getElem?
  intro j
  by_cases hj : j < 48
  · rw [h.2 j hj]; simp [tab]
  · rw [Array.getElem?_eq_none (by rw [h.1]; omega), Array.getElem?_eq_none (by rw [tab_size, hS]; omega)]
end Go.Proofs.Ytodbbacmdjcheaa
namespace Go.Proofs.Ytodbbacmdjcheaa
open Go.RowKit L01 L02 L18
/-- A slice of slots. -/
def Slots (w : World) (v : Value) (L : List Sl) : Prop := Rd w 3 v L.length (tabL L)
def OwnS (w : World) (base E : Nat) (v : Value) (L : List Sl) : Prop := w.ownsRow base E 3 v L.length (tabL L)
theorem OwnS.rd {w : World} {base E : Nat} {v : Value} {L : List Sl} (h : OwnS w base E v L) : Slots w v L := Rd.of_own h
theorem Slots.below {w w' : World} {v : Value} {L : List Sl} (h : Slots w v L) (hb : Below w.heap.size w w') : Slots w' v L := Rd.below h hb
theorem OwnS.below {w w' : World} {base E : Nat} {v : Value} {L : List Sl} (h : OwnS w base E v L) (hb : Below w.heap.size w w') : OwnS w' base E v L := own_below h hb
theorem OwnS.nil (w : World) (base E : Nat) : OwnS w base E (.slice none 0 0) [] := World.ownsRow_nil w base E 3
end Go.Proofs.Ytodbbacmdjcheaa
namespace Go.Proofs.Ytodbbacmdjcheaa
open Go.RowKit L01 L02 L18
end Go.Proofs.Ytodbbacmdjcheaa
namespace Go.Proofs.Ytodbbacmdjcheaa
open Go.RowKit L01 L02 L18
end Go.Proofs.Ytodbbacmdjcheaa
namespace Go.Proofs.Ytodbbacmdjcheaa
open Go.RowKit L01 L02 L18
theorem Slots.at_ {P : Program} {w : World} {v : Value} {L : List Sl} {t e : TypeId} (h : Slots w v L) (ht : P.underlying t = some (.slice e)) (hi : (P.info? e).map (·.size) = some 3) {k : Nat} (hk : k < L.length) :
    ∃ b o s, (∀ W, (Instr.indexAt t v (.int .i64 (k : Int))).run P W = .ok (.pointer (some ⟨b, o, none⟩)) W) ∧ w.cell? ⟨b, o, none⟩ = some (.int .i64 s.gen) ∧ w.cell? ⟨b, o + 1, none⟩ = some (.bool s.used) ∧ w.cell? ⟨b, o + 2, none⟩ = some (.int .i64 s.at_) ∧ Hid (L[k]? = some s) := by
  have hix := fun W => Rd.ixN h ht hi hk W
  obtain ⟨b, o, c, rfl, hb, hc, hcell⟩ := Rd.form h (by omega)
  have hs : L[k]? = some L[k] := List.getElem?_eq_getElem hk
  have t0 := tabL_get L k _ hs 0 (by omega)
  have t1 := tabL_get L k _ hs 1 (by omega)
  have t2 := tabL_get L k _ hs 2 (by omega)
  refine ⟨b, o + k * 3, L[k], fun W => hix W, hcell _ _ t0, hcell _ _ t1, hcell _ _ t2, Lib.hid hs⟩
end Go.Proofs.Ytodbbacmdjcheaa
namespace Go.Proofs.Ytodbbacmdjcheaa
open Go.RowKit L01 L02 L18
theorem OwnS.of {w : World} {B E n : Nat} {v : Value} {xs : List Value} {L : List Sl} (h : w.ownsRow B E 3 v n xs) (hx : xs = tabL L) : OwnS w B E v L := by
  subst hx
  have hn : n = L.length := by have := h.1; rw [tabL_len] at this; omega
  subst hn; exact h
end Go.Proofs.Ytodbbacmdjcheaa
namespace Go.Proofs.Ytodbbacmdjcheaa
open Go.RowKit L01 L02 L05 L13 L14 L15 L18 L19
/-- what is known of an image: its words, its types, its slots, its objects and their addresses -/
structure Sg (W : World) (v tv sv bv : Value) (g n : Nat) (l : List UInt64) (T : List (List UInt8)) (S : List Sl) (O : List Hb) : Prop where
  w : Words W v l
  t : Typs W tv T
  s : Slots W sv S
  b : Blks W bv O
  m : MapL Try.prog 3 4 (.bool false) W g n (fun a => .bool (decide (IsObj O a)))
theorem Sg.below {W W' : World} {v tv sv bv : Value} {g n : Nat} {l : List UInt64} {T : List (List UInt8)} {S : List Sl} {O : List Hb} (h : Sg W v tv sv bv g n l T S O) (hb : Below W.heap.size W W') : Sg W' v tv sv bv g n l T S O :=
  ⟨h.w.below hb, h.t.below hb, Slots.below h.s hb, h.b.below hb, h.m.below hb⟩
end Go.Proofs.Ytodbbacmdjcheaa
namespace Go.Proofs.Ytodbbacmdjcheaa
open Go.RowKit L01 L02 L05 L13 L14 L15 L18 L19
end Go.Proofs.Ytodbbacmdjcheaa
namespace Go.Proofs.Ytodbbacmdjcheaa.L19
open L02 L07 L13 L14 L15 L18 L20
/-- the number of the block at an address -/
def idx : List Hb → Int → Option Nat
  | [], _ => none
  | b :: O, a => if b.at_ = a then some 0 else (idx O a).map (· + 1)
def refV (O : List Hb) (v : UInt64) : UInt64 := match idx O v.toNat with | some i => UInt64.ofNat (i + 1) | none => 0
def fldV (O : List Hb) (k : UInt8) (v : UInt64) : UInt64 := if k.toNat = 3 then refV O v else v
def obFs (l : List UInt64) (T : List (List UInt8)) (O : List Hb) (b : Hb) : List UInt64 := (List.range (kindsB T b).length).map fun i => fldV O ((kindsB T b).getD i 0) (fw l b i)
def obOf (l : List UInt64) (T : List (List UInt8)) (O : List Hb) (b : Hb) : Ob := ⟨b.ty, obFs l T O b⟩
def slOf (O : List Hb) (s : Sl) : Sl := if s.used = true then ⟨s.gen, true, match idx O s.at_ with | some i => (i : Int) | none => -1⟩ else s
def seen (l : List UInt64) : Mo := ⟨T19 l, (O19 l).map (obOf l (T19 l) (O19 l)), (slots l).map (slOf (O19 l))⟩
end Go.Proofs.Ytodbbacmdjcheaa.L19
namespace Go.Proofs.Ytodbbacmdjcheaa
open Go Go.RowKit
section
variable {P : Program} {ops : Array Oper} {rest : List Oper} {o : Oper} {a : Act} {Q : Exit → Act → World → Prop} {w : World}
end
end Go.Proofs.Ytodbbacmdjcheaa
namespace Go.Proofs.Ytodbbacmdjcheaa
open Go.RowKit L01 L02 L05 L07 L13 L14 L15 L18 L19
theorem OwnT.apart {w : World} {B p i : Nat} {v u : Value} {L : List (List UInt8)} (h : OwnT w B v L) (hp : p < B) : OwnT (w.setCell ⟨p, i, none⟩ u) B v L := by
  obtain ⟨vs, a1, a2, a4⟩ := h
  exact ⟨vs, a1, own_apart a2 hp, fun i x l h5 h6 => own_apart (a4 i x l h5 h6) hp⟩
theorem OwnT.mid {w w' : World} {lo : Nat} {v : Value} {L : List (List UInt8)} (h : OwnT w lo v L) (hm : Mid lo w.heap.size w w') : OwnT w' lo v L := by
  obtain ⟨vs, a1, a2, a4⟩ := h
  exact ⟨vs, a1, own_mid a2 hm, fun i x l h5 h6 => own_mid (a4 i x l h5 h6) hm⟩
theorem OwnT.form {w : World} {B : Nat} {v : Value} {L : List (List UInt8)} (h : OwnT w B v L) : ∃ A n c, v = .slice A n c := by
  obtain ⟨_, _, h2, _⟩ := h
  obtain ⟨A, c, e, _⟩ := Rd.of_own h2; exact ⟨A, _, c, e⟩
/-- the blocks that the walk of parts has made stay -/
structure MidS (lo : Nat) (ws w : World) : Prop where
  m : Mid lo ws.heap.size ws w
  z : ws.heap.size ≤ w.heap.size
theorem MidS.below {lo : Nat} {ws w w' : World} (h : MidS lo ws w) (hb : Below w.heap.size w w') : MidS lo ws w' := ⟨h.m.below h.z hb, Nat.le_trans h.z hb.size⟩
theorem MidS.grown {lo : Nat} {ws w w' : World} {row : Option Nat} (h : MidS lo ws w) (hg : w.grownBy w' row) (hr : ∀ k, row = some k → k < lo ∨ ws.heap.size ≤ k) : MidS lo ws w' := ⟨h.m.grown h.z hg hr, Nat.le_trans h.z hg.size⟩
theorem MidS.set {lo : Nat} {ws w : World} (h : MidS lo ws w) {p : Addr} (hp : p.block < lo) (u : Value) : MidS lo ws (w.setCell p u) := ⟨h.m.set (.inl hp) u, by simpa [World.setCell] using h.z⟩
/-- what is known while parts fills its result -/
structure SgO (W : World) (base lo : Nat) (v tv sv bv : Value) (E pm nm : Nat) (l : List UInt64) (T : List (List UInt8)) (S : List Sl) (O : List Hb) (w0 : World) : Prop where
  b : Below w0.heap.size w0 W
  t : OwnT W lo tv T
  s : W.ownsRow lo E 3 sv S.length (tabL S)
  k : OwnK W base bv O
  kn : bv.ownBlock ≠ some w0.heap.size
  m : MapL Try.prog 3 4 (.bool false) W pm nm (fun a => .bool (decide (IsObj O a)))
theorem SgO.set {W w0 : World} {base lo E pm nm i : Nat} {v tv sv bv u : Value} {l : List UInt64} {T : List (List UInt8)} {S : List Sl} {O : List Hb} (h : SgO W base lo v tv sv bv E pm nm l T S O w0) (hp : w0.heap.size < lo) (hm : w0.heap.size ≠ pm) : SgO (W.setCell ⟨w0.heap.size, i, none⟩ u) base lo v tv sv bv E pm nm l T S O w0 :=
  ⟨h.b.setCell (p := ⟨w0.heap.size, i, none⟩) (Nat.le_refl _) _, h.t.apart hp, own_apart h.s hp, World.ownsRow.kept h.k (grown_set _ ⟨w0.heap.size, i, none⟩ u) (.inr h.kn), h.kn, h.m.kept (grown_set _ ⟨w0.heap.size, i, none⟩ u) (by intro e; injection e with e; exact hm e.symm)⟩
end Go.Proofs.Ytodbbacmdjcheaa
namespace Go.Proofs.Ytodbbacmdjcheaa
open Go.RowKit L01 L02 L05 L07 L13 L14 L15 L18 L19
end Go.Proofs.Ytodbbacmdjcheaa
namespace Go.Proofs.Ytodbbacmdjcheaa
open Go.RowKit L01 L02 L05 L07 L13 L14 L15 L18 L19
end Go.Proofs.Ytodbbacmdjcheaa
namespace Go.Proofs.Ytodbbacmdjcheaa
open Go.RowKit L02 L05 L06 L07
end Go.Proofs.Ytodbbacmdjcheaa
namespace Go.Proofs.Ytodbbacmdjcheaa
open Go.RowKit L01 L02 L05 L06 L07 L13 L14 L15 L18 L19
end Go.Proofs.Ytodbbacmdjcheaa
namespace Go.Proofs.Ytodbbacmdjcheaa
open Go.RowKit L01 L02 L05 L06 L07 L13 L14 L15 L18 L19
end Go.Proofs.Ytodbbacmdjcheaa
namespace Go.Proofs.Ytodbbacmdjcheaa
open Go.RowKit L01 L02 L05 L06 L07 L13 L14 L15 L18 L19
end Go.Proofs.Ytodbbacmdjcheaa
namespace Go.Proofs.Ytodbbacmdjcheaa
open Go.RowKit L01 L02 L05 L06 L07 L13 L14 L15 L18 L19
/-- what the reference knows of an image -/
structure Rs19 (W : World) (v tv sv bv : Value) (l : List UInt64) (T : List (List UInt8)) (S : List Sl) (O : List Hb) : Prop where
  w : Words W v l
  t : Typs W tv T
  s : Slots W sv S
  b : Blks W bv O
theorem Rs19.below {W W' : World} {v tv sv bv : Value} {l : List UInt64} {T : List (List UInt8)} {S : List Sl} {O : List Hb} (h : Rs19 W v tv sv bv l T S O) (hb : Below W.heap.size W W') : Rs19 W' v tv sv bv l T S O :=
  ⟨h.w.below hb, h.t.below hb, Slots.below h.s hb, h.b.below hb⟩
end Go.Proofs.Ytodbbacmdjcheaa
namespace Go.Proofs.Ytodbbacmdjcheaa
open Go.RowKit L01 L02 L05 L06 L07 L13 L14 L15 L18 L19
end Go.Proofs.Ytodbbacmdjcheaa
namespace Go.Proofs.Ytodbbacmdjcheaa.L19
open L02 L07 L13 L14 L15 L16 L18
/-- blocks that stand one behind the other, from an address to another -/
inductive Seg (l : List UInt64) : Nat → List Hb → Nat → Prop where
  | nil {k : Nat} : k ≤ l.length → Seg l k [] k
  | cons {k q : Nat} {L : List Hb} : k < l.length → StOk l k → Seg l (k + szN l k) L q → Seg l k (stand l k :: L) q
section
variable {l l' : List UInt64} {k p q : Nat} {A B L : List Hb} {b : Hb}
theorem Seg.le (h : Seg l k L q) : k ≤ q ∧ q ≤ l.length := by
  induction h with
  | nil h => exact ⟨Nat.le_refl _, h⟩
  | cons hk hs _ ih => have := szN_ge hs; omega
theorem Seg.of_chain (h : Chain l k L) : Seg l k L l.length := by
  induction h with
  | nil => exact .nil (Nat.le_refl _)
  | cons hk hs _ ih => exact .cons hk hs ih
theorem Seg.chain (h : Seg l k L q) (e : q = l.length) : Chain l k L := by
  induction h with
  | nil h => subst e; exact .nil
  | cons hk hs _ ih => exact .cons hk hs (ih e)
theorem Seg.append (h1 : Seg l k A p) (h2 : Seg l p B q) : Seg l k (A ++ B) q := by
  induction h1 with
  | nil h => exact h2
  | cons hk hs _ ih => exact .cons hk hs (ih h2)
theorem Seg.split : ∀ {A : List Hb} {k : Nat}, Seg l k (A ++ B) q → ∃ p, Seg l k A p ∧ Seg l p B q
  | [], k, h => ⟨k, .nil (Nat.le_trans (Seg.le h).1 (Seg.le h).2), h⟩
  | a :: A, k, h => by
    rw [List.cons_append] at h
    cases h with
    | cons hk hs ht =>
      obtain ⟨p, h1, h2⟩ := Seg.split ht
      exact ⟨p, .cons hk hs h1, h2⟩
theorem Seg.congr (h : Seg l k L q) (hl : l'.length = l.length) (he : ∀ i, k ≤ i → i < q → l'.getD i 0 = l.getD i 0) : Seg l' k L q := by
  induction h with
  | nil h => exact .nil (by omega)
  | cons hk hs ht ih =>
    rename_i k q L
    have hz := szN_ge hs
    have hle := ht.le
    have e0 := he k (Nat.le_refl _) (by omega)
    have e1 := he (k + 1) (by omega) (by omega)
    have es : stand l' k = stand l k := by unfold stand; rw [e0, e1]
    have ez : szN l' k = szN l k := by unfold szN; rw [e0]
    rw [← es]
    refine .cons (by omega) ?_ ?_
    · unfold StOk; rw [e0, hl]; exact hs
    · rw [ez]; exact ih (fun i h1 h2 => he i (by omega) h2)
/-- the first block -/
theorem Seg.head (h : Seg l k (b :: L) q) : b.at_ = k ∧ BkOk b ∧ b = stand l k ∧ StOk l k ∧ ((k + szN l k : Nat) : Int) = k + b.size ∧ Seg l (k + szN l k) L q := by
  cases h with
  | cons hk hs ht =>
    have hz := szN_ge hs
    refine ⟨rfl, stand_ok hs, rfl, hs, ?_, ht⟩
    rw [stand_size hs]; omega
theorem Seg.one (h : Seg l k [b] q) : b.at_ = k ∧ (q : Int) = k + b.size ∧ BkOk b := by
  obtain ⟨h1, h2, _, _, h3, h4⟩ := h.head
  cases h4 with
  | nil => exact ⟨h1, h3, h2⟩
/-- a block stands where its word does -/
theorem stand_put (hok : BkOk b) (hw : l.getD k 0 = word b) (ha : b.at_ = k) (hn : b.next = l.getD (k + 1) 0) (hle : (k : Int) + b.size ≤ l.length) : StOk l k ∧ stand l k = b ∧ (szN l k : Int) = b.size := by
  have hsp := split_word hok
  have hb := hok.bounds
  refine ⟨⟨by rw [hw]; exact hd_word hok, by rw [hw, hsp]; exact hle⟩, ?_, ?_⟩
  · unfold stand
    rw [hw, hsp, ← hn, ← ha]
  · unfold szN
    rw [hw, hsp]
    show ((b.size.toNat : Nat) : Int) = b.size
    omega
theorem Seg.put (hok : BkOk b) (hw : l.getD k 0 = word b) (ha : b.at_ = k) (hn : b.next = l.getD (k + 1) 0) (hq : (q : Int) = k + b.size) (hle : q ≤ l.length) : Seg l k [b] q := by
  obtain ⟨h1, h2, h3⟩ := stand_put hok hw ha hn (by omega)
  have hb := hok.bounds
  have e : q = k + szN l k := by omega
  have := Seg.cons (l := l) (k := k) (q := q) (L := []) (by omega) h1 (by rw [← e]; exact .nil hle)
  rw [h2] at this
  exact this
/-- the whole heap -/
theorem all_of_seg (hs : SizeOk l.length) (h : Seg l 128 L l.length) (ha : ¬ Adj L) : allErr l = 0 ∧ allL l = L := by
  have hp : parsed l = some L := parsed_ok.2 ⟨from_chain (h.chain rfl), ha⟩
  have he : allErr l = 0 := by unfold allErr; rw [if_pos hs, hp]; rfl
  exact ⟨he, by rw [allL, if_pos he, hp]; rfl⟩
theorem seg_of_all (h : allErr l = 0) : Seg l 128 (allL l) l.length ∧ ¬ Adj (allL l) := by
  obtain ⟨hs, hp⟩ := allErr_ok h
  obtain ⟨hfr, hadj⟩ := parsed_ok.1 hp
  exact ⟨.of_chain (chain_iff.1 hfr), hadj⟩
end
/-- a part of the heap: what stands before it, it, what stands behind it -/
structure Cut (l : List UInt64) (P M S : List Hb) (p q : Nat) : Prop where
  eq : allL l = P ++ (M ++ S)
  s1 : Seg l 128 P p
  s2 : Seg l p M q
  s3 : Seg l q S l.length
  na : ¬ Adj (P ++ (M ++ S))
theorem Cut.of {l : List UInt64} (h : allErr l = 0) {P M S : List Hb} (e : allL l = P ++ (M ++ S)) : ∃ p q, Cut l P M S p q := by
  obtain ⟨h1, h2⟩ := seg_of_all h
  rw [e] at h1 h2
  obtain ⟨p, a1, a2⟩ := Seg.split h1
  obtain ⟨q, a3, a4⟩ := Seg.split a2
  exact ⟨p, q, e, a1, a3, a4, h2⟩
/-- the part written anew -/
theorem Cut.new {l l' : List UInt64} {P M S N : List Hb} {p q : Nat} (hs : SizeOk l.length) (h : Cut l P M S p q) (hl : l'.length = l.length) (he : ∀ i, 128 ≤ i → i < p ∨ q ≤ i → l'.getD i 0 = l.getD i 0) (hN : Seg l' p N q) (hna : ¬ Adj (P ++ (N ++ S))) :
    allErr l' = 0 ∧ allL l' = P ++ (N ++ S) ∧ Cut l' P N S p q := by
  have b1 := h.s1.le
  have b2 := h.s2.le
  have c1 : Seg l' 128 P p := h.s1.congr hl (fun i h1 h2 => he i h1 (.inl h2))
  have c3 : Seg l' q S l'.length := by rw [hl]; exact h.s3.congr hl (fun i h1 h2 => he i (by omega) (.inr h1))
  have c := c1.append (hN.append c3)
  obtain ⟨a1, a2⟩ := all_of_seg (by rw [hl]; exact hs) c hna
  exact ⟨a1, a2, a2, c1, hN, c3, hna⟩
end Go.Proofs.Ytodbbacmdjcheaa.L19
namespace Go.Proofs.Ytodbbacmdjcheaa.L20
open L02 L13 L18
/-- a reference to object n -/
def isRef (m : Mo) (o : Ob) (k : Nat) (n : Nat) : Prop := ((ty m.types o).getD k 0).toNat = 3 ∧ (o.fs.getD k 0).toNat = n + 1
instance (m : Mo) (o : Ob) (k n : Nat) : Decidable (isRef m o k n) := inferInstanceAs (Decidable (_ ∧ _))
/-- another slot, or a field of another object, refers to object n -/
def Busy (m : Mo) (sl : Int) (n : Nat) : Prop := (∃ i, i < m.slots.length ∧ (i : Int) ≠ sl ∧ (m.slots.getD i .none).used = true ∧ (m.slots.getD i .none).at_ = n) ∨ ∃ i, i < m.objs.length ∧ i ≠ n ∧ ∃ k, k < (ob m i).fs.length ∧ isRef m (ob m i) k n
instance (m : Mo) (sl : Int) (n : Nat) : Decidable (Busy m sl n) := inferInstanceAs (Decidable ((∃ i, i < m.slots.length ∧ (i : Int) ≠ sl ∧ (m.slots.getD i .none).used = true ∧ (m.slots.getD i .none).at_ = n) ∨ ∃ i, i < m.objs.length ∧ i ≠ n ∧ ∃ k, k < (ob m i).fs.length ∧ isRef m (ob m i) k n))
end Go.Proofs.Ytodbbacmdjcheaa.L20
namespace Go.Proofs.Ytodbbacmdjcheaa.L20
open L02 L13 L18
end Go.Proofs.Ytodbbacmdjcheaa.L20
namespace Go.Proofs.Ytodbbacmdjcheaa.L20
open L02 L13 L18
def kidAt (m : Mo) (o : Ob) (i : Nat) : Option Nat := if ((ty m.types o).getD i 0).toNat = 3 ∧ 0 < (o.fs.getD i 0).toNat then some ((o.fs.getD i 0).toNat - 1) else none
def kidsTo (m : Mo) (o : Ob) (p : Nat) : List Nat := (List.range p).filterMap (kidAt m o)
def kids (m : Mo) (n : Nat) : List Nat := kidsTo m (ob m n) (ob m n).fs.length
/-- out is what is found, ord has been found, l is to be looked at -/
inductive Rs (m : Mo) : List Nat → List Nat → List Nat → Prop
  | nil (ord : List Nat) : Rs m ord [] ord
  | seen {ord l out : List Nat} {n : Nat} : n ∈ ord → Rs m ord l out → Rs m ord (n :: l) out
  | new {ord l out : List Nat} {n : Nat} : n ∉ ord → Rs m (ord ++ [n]) (kids m n ++ l) out → Rs m ord (n :: l) out
section
variable {m : Mo} {ord l out : List Nat}
theorem Rs.join {mid : List Nat} {a : List Nat} (h : Rs m ord a mid) : ∀ {b out}, Rs m mid b out → Rs m ord (a ++ b) out := by
  induction h with
  | nil ord => intro b out h; exact h
  | seen h1 _ ih => intro b out h; exact .seen h1 (ih h)
  | new h1 _ ih =>
    intro b out h
    have h2 := ih h
    rw [List.append_assoc] at h2
    exact .new h1 h2
theorem Rs.pre (h : Rs m ord l out) : ord <+: out := by
  induction h with
  | nil ord => exact List.prefix_refl _
  | seen _ _ ih => exact ih
  | new _ _ ih => exact (List.prefix_append _ _).trans ih
theorem Rs.all {p : Nat → Prop} (hk : ∀ n, p n → ∀ k ∈ kids m n, p k) (h : Rs m ord l out) : (∀ n ∈ ord, p n) → (∀ n ∈ l, p n) → ∀ n ∈ out, p n := by
  induction h with
  | nil ord => intro h _; exact h
  | seen _ _ ih => intro h1 h2; exact ih h1 fun n hn => h2 n (List.mem_cons_of_mem _ hn)
  | @new ord l out n _ _ ih =>
    intro h1 h2
    have hpn := h2 n List.mem_cons_self
    refine ih (fun x hx => ?_) fun x hx => ?_
    · rcases List.mem_append.1 hx with h | h
      · exact h1 x h
      · rw [List.mem_singleton.1 h]; exact hpn
    · rcases List.mem_append.1 hx with h | h
      · exact hk n hpn x h
      · exact h2 x (List.mem_cons_of_mem _ h)
end
/-- .. in so many steps -/
inductive Rn (m : Mo) : Nat → List Nat → List Nat → List Nat → Prop
  | nil (ord : List Nat) : Rn m 0 ord [] ord
  | seen {ord l out : List Nat} {n d : Nat} : n ∈ ord → Rn m d ord l out → Rn m (d + 1) ord (n :: l) out
  | new {ord l out : List Nat} {n d : Nat} : n ∉ ord → Rn m d (ord ++ [n]) (kids m n ++ l) out → Rn m (d + 1) ord (n :: l) out
theorem Rs.steps {m : Mo} {ord l out : List Nat} (h : Rs m ord l out) : ∃ d, Rn m d ord l out := by
  induction h with
  | nil ord => exact ⟨0, .nil _⟩
  | seen h1 _ ih => obtain ⟨d, h⟩ := ih; exact ⟨d + 1, .seen h1 h⟩
  | new h1 _ ih => obtain ⟨d, h⟩ := ih; exact ⟨d + 1, .new h1 h⟩
theorem Rn.rs {m : Mo} {ord l out : List Nat} {d : Nat} (h : Rn m d ord l out) : Rs m ord l out := by
  induction h with
  | nil ord => exact .nil _
  | seen h1 _ ih => exact .seen h1 ih
  | new h1 _ ih => exact .new h1 ih
theorem Rn.len {m : Mo} {ord l out : List Nat} {d : Nat} (h : Rn m d ord l out) : l.length ≤ d := by
  induction h with
  | nil ord => simp
  | seen h1 _ ih => simp; exact ih
  | new h1 _ ih => simp at ih ⊢; omega
theorem Rn.all {m : Mo} {p : Nat → Prop} (hk : ∀ n, p n → ∀ k ∈ kids m n, p k) {ord l out : List Nat} {d : Nat} (h : Rn m d ord l out) (h1 : ∀ n ∈ ord, p n) (h2 : ∀ n ∈ l, p n) : ∀ n ∈ out, p n := h.rs.all hk h1 h2
theorem Rn.end {m : Mo} {ord out : List Nat} {d : Nat} (h : Rn m d ord [] out) : out = ord := by cases h; rfl
end Go.Proofs.Ytodbbacmdjcheaa.L20
namespace Go.Proofs.Ytodbbacmdjcheaa.L20
open L02 L13 L18
/-- of the same types -/
def Like (m m' : Mo) : Prop := m'.types = m.types ∧ m'.objs.length = m.objs.length ∧ ∀ k, (ob m' k).ty = (ob m k).ty ∧ (ob m' k).fs.length = (ob m k).fs.length
theorem Like.refl (m : Mo) : Like m m := ⟨rfl, rfl, fun _ => ⟨rfl, rfl⟩⟩
section
variable {φ : UInt8 → UInt64 → UInt64} {m : Mo} {n i : Nat}
end
end Go.Proofs.Ytodbbacmdjcheaa.L20
namespace Go.Proofs.Ytodbbacmdjcheaa.L20
open L02 L13 L18
section
variable {α : Type} {f : α → α} {L : List α} {k : Nat} {s : α}
end
section
variable {m : Mo} {q n i : Nat}
end
end Go.Proofs.Ytodbbacmdjcheaa.L20
namespace Go.Proofs.Ytodbbacmdjcheaa.L19
open L02 L07 L13 L14 L15 L16 L18 L20
/-- images that are the same in front of the heap -/
structure Front (l l' : List UInt64) : Prop where
  len : l'.length = l.length
  take : l'.take 128 = l.take 128
section
variable {l l' : List UInt64}
theorem Front.get (h : Front l l') {i : Nat} (hi : i < 128) : l'.getD i 0 = l.getD i 0 := by
  rw [List.getD_eq_getElem?_getD, List.getD_eq_getElem?_getD, ← List.getElem?_take_of_lt hi, h.take, List.getElem?_take_of_lt hi]
theorem Front.part (h : Front l l') {a n : Nat} (ha : a + n ≤ 128) : (l'.drop a).take n = (l.drop a).take n := by
  have e : ∀ m : List UInt64, (m.drop a).take n = ((m.take 128).drop a).take n := fun m => by
    rw [List.drop_take, List.take_take, Nat.min_eq_left (by omega)]
  rw [e l', e l, h.take]
theorem Front.super (h : Front l l') : rErr l' = rErr l ∧ sT l' = sT l := by
  have h0 : c0 l' = c0 l := by have := h.part (a := 0) (n := 8) (by omega); rwa [List.drop_zero, List.drop_zero] at this
  have h1 : c1 l' = c1 l := h.part (a := 8) (n := 8) (by omega)
  have e0 : is0 l' = is0 l := by unfold is0; rw [h0, h.len]
  have e1 : is1 l' = is1 l := by unfold is1; rw [h1, h.len]
  have e2 : rErr l' = rErr l := by unfold rErr; rw [e0, e1, h.len]
  exact ⟨e2, by unfold sT one; rw [e2, e0, h0, h1]⟩
theorem Front.tab (h : Front l l') (n : Int) : tabErr l' n = tabErr l n ∧ tabT l' n = tabT l n := by
  have e0 : ∀ i, i < 8 → ta l' i = ta l i ∧ tb l' i = tb l i := fun i hi => by unfold ta tb; exact ⟨h.get (by omega), h.get (by omega)⟩
  have e : ∀ k, TysOk l' k ↔ TysOk l k := fun k => by
    unfold TysOk
    constructor <;> intro hh i hi <;> have := hh i hi <;> unfold TyOk at * <;> rw [(e0 i hi).1, (e0 i hi).2] at * <;> exact this
  have e2 : tabErr l' n = tabErr l n := by unfold tabErr; rw [h.len]; simp only [e]
  refine ⟨e2, ?_⟩
  unfold tabT
  rw [e2]
  by_cases h0 : tabErr l n = 0
  · rw [if_pos h0, if_pos h0]
    have hn : n.toNat ≤ 8 := by
      unfold tabErr at h0
      split at h0
      · split at h0
        · omega
        · omega
      · omega
    unfold tysTo
    refine List.map_congr_left fun i hi => ?_
    have := List.mem_range.1 hi
    rw [(e0 i (by omega)).1, (e0 i (by omega)).2]
  · rw [if_neg h0, if_neg h0]
theorem Front.types (h : Front l l') : T19 l' = T19 l := by unfold T19; rw [h.super.2, (h.tab _).2]
theorem Front.refl (l : List UInt64) : Front l l := ⟨rfl, rfl⟩
theorem Front.trans {m : List UInt64} (h : Front l l') (h2 : Front l' m) : Front l m := ⟨h2.len.trans h.len, h2.take.trans h.take⟩
end
end Go.Proofs.Ytodbbacmdjcheaa.L19
namespace Go.Proofs.Ytodbbacmdjcheaa
open Go.RowKit L01 L02 L05 L06 L07 L13 L14 L15 L16 L18 L19
end Go.Proofs.Ytodbbacmdjcheaa
namespace Go.Proofs.Ytodbbacmdjcheaa
open Go.RowKit L02 L05 L06 L07 L13 L14 L15 L16 L19 L73 L75
end Go.Proofs.Ytodbbacmdjcheaa
namespace Go.Proofs.Ytodbbacmdjcheaa
open Go.RowKit L02 L05 L06 L07 L13 L14 L15 L16 L19 L73 L75
theorem errT_all : ∀ {T : List (List UInt8)}, errT T = 0 → ∀ t ∈ T, kErr t = 0
  | [], _, t, h => by simp at h
  | x :: T, h, t, ht => by
    rw [errT] at h
    by_cases h0 : kErr x = 0
    · rw [if_pos h0] at h
      rcases List.mem_cons.1 ht with rfl | ht
      · exact h0
      · exact errT_all h t ht
    · rw [if_neg h0] at h; exact absurd h h0
/-- no error: the words are right, the types few and right -/
theorem imgErr_ok {n : Int} {T : List (List UInt8)} (h : imgErr n T = 0) : ∃ N : Nat, n = N ∧ SizeOk (N : Int) ∧ T.length ≤ 8 ∧ (∀ t ∈ T, kErr t = 0) ∧ imgP n T = imageP N T := by
  have h0 := h
  rw [imgErr] at h
  by_cases hs : ¬ SizeOk n
  · rw [if_pos hs] at h; cases h
  · rw [if_neg hs] at h
    by_cases h8 : 8 < T.length
    · rw [if_pos h8] at h; cases h
    · rw [if_neg h8] at h
      have hs' := Decidable.not_not.1 hs
      obtain ⟨N, rfl⟩ := Int.eq_ofNat_of_zero_le (show 0 ≤ n by have := hs'.1; omega)
      exact ⟨N, rfl, hs', by omega, errT_all h, by rw [imgP, if_pos h0]; rfl⟩
end Go.Proofs.Ytodbbacmdjcheaa
namespace Go.Proofs.Ytodbbacmdjcheaa.L74
open L02 L05 L06 L07 L13 L14 L15 L16 L18 L19 L73
theorem ext0 {a b : List UInt64} (hl : a.length = b.length) (h : ∀ i, i < a.length → a.getD i 0 = b.getD i 0) : a = b := by
  apply List.ext_getElem hl
  intro i h1 h2
  have := h i h1
  rw [List.getD_eq_getElem?_getD, List.getD_eq_getElem?_getD, List.getElem?_eq_getElem h1, List.getElem?_eq_getElem h2] at this
  exact this
theorem tysP_far (l : List UInt64) (T : List (List UInt8)) (hl : 112 ≤ l.length) : ∀ k, k ≤ 8 → ∀ i, (i < 96 ∨ 96 + 2 * k ≤ i) → (tysP l T k).getD i 0 = l.getD i 0
  | 0, _, i, h => rfl
  | k + 1, hk, i, h => by
    rw [tysP, putP_getD _ _ _ _ (by rw [tysP_len]; simp; omega), if_neg (by simp; omega)]
    exact tysP_far l T hl k (by omega) i (by omega)
/-- every word of a new image -/
theorem imageP_getD {n : Nat} {T : List (List UInt8)} (hn : 256 ≤ n) (hT : T.length ≤ 8) (i : Nat) : (imageP n T).getD i 0 =
    if i = 128 then word ⟨0, (n : Int) - 128, 2, 0, false, 0⟩ else if 8 ≤ i ∧ i < 16 then (wordsOf n T.length).getD (i - 8) 0 else if i < 8 then (wordsOf n T.length).getD i 0 else (tysP (List.replicate n 0) T T.length).getD i 0 := by
  have h8 : (wordsOf n T.length).length = 8 := len_words _ _
  have hl : (tysP (List.replicate n 0) T T.length).length = n := by rw [tysP_len, List.length_replicate]
  rw [imageP, putP_getD _ _ _ _ (by rw [putW_len, putW_len, hl]; simp; omega)]
  by_cases e : i = 128
  · subst e; rw [if_pos (by simp), if_pos rfl]; rfl
  · rw [if_neg (by simp; omega), if_neg e, putP_getD _ _ _ _ (by rw [putW_len, hl, h8]; omega), putP_getD _ _ _ _ (by rw [hl, h8]; omega), h8]
    by_cases a : 8 ≤ i ∧ i < 16
    · rw [if_pos (show 8 ≤ i ∧ i < 8 + 8 from a), if_pos a]
    · rw [if_neg (show ¬ (8 ≤ i ∧ i < 8 + 8) from a), if_neg a]
      by_cases b : i < 8
      · rw [if_pos (show 0 ≤ i ∧ i < 0 + 8 by omega), if_pos b]; rfl
      · rw [if_neg (show ¬ (0 ≤ i ∧ i < 0 + 8) by omega), if_neg b]
theorem imageP_zero {n : Nat} {T : List (List UInt8)} (hn : 256 ≤ n) (hT : T.length ≤ 8) {i : Nat} (h1 : 16 ≤ i) (h2 : i < 96 ∨ 96 + 2 * T.length ≤ i) (h3 : i ≠ 128) : (imageP n T).getD i 0 = 0 := by
  rw [imageP_getD hn hT, if_neg h3, if_neg (by omega), if_neg (by omega), tysP_far _ _ (by simp; omega) _ hT _ h2, List.getD_eq_getElem?_getD]
  by_cases h : i < n
  · rw [List.getElem?_replicate_of_lt h]; rfl
  · rw [List.getElem?_eq_none (by simp; omega)]; rfl
/-- what a right new image is asked for -/
structure Nw (n : Nat) (T : List (List UInt8)) : Prop where
  sz : SizeOk n
  len : T.length ≤ 8
  ok : ∀ t ∈ T, kErr t = 0
variable {n : Nat} {T : List (List UInt8)}
theorem Nw.le (h : Nw n T) : 256 ≤ n ∧ n ≤ 2048 := by have h1 := h.sz.1; have h2 := h.sz.2.1; omega
theorem Nw.sizeOk (h : Nw n T) : SizeOk (imageP n T).length := by rw [imageP_len]; exact h.sz
theorem Nw.sup (h : Nw n T) : SupOk n T.length := ⟨h.sz, by omega, by have := h.len; omega⟩
theorem Nw.bk (h : Nw n T) : BkOk ⟨0, (n : Int) - 128, 2, 0, false, 0⟩ := by
  have := h.sz; unfold SizeOk at this
  exact ⟨⟨show (2 : Int) ≤ (n : Int) - 128 by omega, show ((n : Int) - 128) % 2 = 0 by omega⟩, .inr ⟨rfl, rfl, rfl, show (n : Int) - 128 ≤ 1920 by omega⟩⟩
theorem getD_take {l : List UInt64} {k i : Nat} (h : i < k) : (l.take k).getD i 0 = l.getD i 0 := by
  rw [List.getD_eq_getElem?_getD, List.getD_eq_getElem?_getD, List.getElem?_take_of_lt h]
theorem getD_drop (l : List UInt64) (k i : Nat) : (l.drop k).getD i 0 = l.getD (k + i) 0 := by
  rw [List.getD_eq_getElem?_getD, List.getD_eq_getElem?_getD, List.getElem?_drop]
theorem Nw.c0 (h : Nw n T) : c0 (imageP n T) = wordsOf n T.length := by
  have hl := h.le
  refine ext0 (by rw [c0_len h.sizeOk, len_words]) fun i hi => ?_
  rw [c0_len h.sizeOk] at hi
  rw [L07.c0, getD_take hi, imageP_getD hl.1 h.len, if_neg (by omega), if_neg (by omega), if_pos hi]
theorem Nw.c1 (h : Nw n T) : c1 (imageP n T) = wordsOf n T.length := by
  have hl := h.le
  refine ext0 (by rw [c1_len h.sizeOk, len_words]) fun i hi => ?_
  rw [c1_len h.sizeOk] at hi
  rw [L07.c1, getD_take hi, getD_drop, imageP_getD hl.1 h.len, if_neg (by omega), if_pos (by omega), Nat.add_sub_cancel_left]
theorem Nw.copy (h : Nw n T) : CopyOk (imageP n T).length (wordsOf n T.length) := good_words h.sup (by rw [imageP_len])
theorem Nw.is (h : Nw n T) : is0 (imageP n T) = true ∧ is1 (imageP n T) = true := by
  rw [is0_good h.sizeOk, is1_good h.sizeOk, h.c0, h.c1]
  exact ⟨decide_eq_true h.copy, decide_eq_true h.copy⟩
theorem Nw.tw (h : Nw n T) : rErr (imageP n T) = 0 := rErr_mk h.sizeOk (.inl h.is.1)
theorem Nw.sT (h : Nw n T) : sT (imageP n T) = T.length := by
  rw [L07.sT, if_pos h.tw, one, if_pos h.is.1, h.c0, at3_words h.sup]
theorem Nw.ta (h : Nw n T) {i : Nat} (hi : i < T.length) : ta (imageP n T) i = w0 (T.getD i []) ∧ tb (imageP n T) i = L13.w1 (T.getD i []) := (imageP_at h.le.1 h.len).2 i hi
theorem Nw.tz (h : Nw n T) {i : Nat} (h1 : T.length ≤ i) (h2 : i < 8) : L13.ta (imageP n T) i = 0 ∧ tb (imageP n T) i = 0 :=
  ⟨imageP_zero h.le.1 h.len (by omega) (by omega) (by omega), imageP_zero h.le.1 h.len (by omega) (by omega) (by omega)⟩
theorem Nw.okD (h : Nw n T) {i : Nat} (hi : i < T.length) : kErr (T.getD i []) = 0 := by
  rw [List.getD_eq_getElem?_getD, List.getElem?_eq_getElem hi]; exact h.ok _ (List.getElem_mem hi)
theorem Nw.tys (h : Nw n T) : TysOk (imageP n T) T.length := fun i hi => by
  unfold TyOk
  by_cases e : i < T.length
  · rw [if_pos e, (h.ta e).1, (h.ta e).2]; exact (rd_of_write (h.okD e)).1
  · rw [if_neg e]; exact h.tz (by omega) hi
theorem Nw.tab (h : Nw n T) : tabErr (imageP n T) (L07.sT (imageP n T)) = 0 := by
  rw [h.sT, tabErr, if_pos h.sizeOk, if_pos ⟨by omega, by have := h.len; omega⟩, if_pos (by rw [Int.toNat_natCast]; exact h.tys)]
theorem Nw.tyT (h : Nw n T) : T19 (imageP n T) = T := by
  rw [T19, tabT, if_pos h.tab, h.sT, Int.toNat_natCast]
  apply List.ext_getElem
  · rw [tysTo_len]
  · intro i h1 h2
    simp only [tysTo, List.getElem_map, List.getElem_range]
    rw [(h.ta h2).1, (h.ta h2).2, (rd_of_write (h.okD h2)).2, List.getD_eq_getElem?_getD, List.getElem?_eq_getElem h2]; rfl
theorem Nw.ws (h : Nw n T) : ws (imageP n T) = List.replicate 16 0 := by
  have hl := h.le
  refine ext0 (by rw [L18.ws, List.length_take, List.length_drop, imageP_len, List.length_replicate]; omega) fun i hi => ?_
  rw [L18.ws, List.length_take, List.length_drop, imageP_len] at hi
  rw [L18.ws, getD_take (by omega), getD_drop, imageP_zero hl.1 h.len (by omega) (by have := h.len; omega) (by omega), List.getD_eq_getElem?_getD, List.getElem?_replicate_of_lt (by omega)]; rfl
theorem Nw.slots (h : Nw n T) : slots (imageP n T) = List.replicate 16 .none := by
  rw [L18.slots, h.ws, List.map_replicate]; rw [show spl 0 = Sl.none by decide]
theorem Nw.sl (h : Nw n T) : openErr (imageP n T) = 0 := by
  rw [openErr, if_pos h.sizeOk, if_pos]
  intro x hx
  rw [h.ws] at hx
  rw [List.eq_of_mem_replicate hx]; decide
/-- the one block -/
def nwB (n : Nat) : Hb := ⟨128, (n : Int) - 128, 2, 0, false, 0⟩
theorem Nw.head (h : Nw n T) : (imageP n T).getD 128 0 = word ⟨0, (n : Int) - 128, 2, 0, false, 0⟩ := by rw [imageP_getD h.le.1 h.len, if_pos rfl]
theorem Nw.stOk (h : Nw n T) : StOk (imageP n T) 128 := by
  have hl := h.le
  refine ⟨by rw [h.head]; exact hd_word h.bk, ?_⟩
  rw [h.head, split_word h.bk, imageP_len]; show (128 : Int) + ((n : Int) - 128) ≤ n; omega
theorem Nw.stand (h : Nw n T) : stand (imageP n T) 128 = nwB n := by
  rw [L15.stand, h.head, split_word h.bk, imageP_zero h.le.1 h.len (by omega) (by have := h.len; omega) (by omega)]; rfl
theorem Nw.parsed (h : Nw n T) : parsed (imageP n T) = some [nwB n] := by
  have hl := h.le
  rw [parsed_ok]
  have hz : szN (imageP n T) 128 = n - 128 := by
    rw [szN, h.head, split_word h.bk]; show ((n : Int) - 128).toNat = n - 128; omega
  refine ⟨?_, fun a => by simp [Adj] at a⟩
  rw [from_step (by rw [imageP_len]; omega) h.stOk, hz, h.stand, show 128 + (n - 128) = (imageP n T).length by rw [imageP_len]; omega, from_end]; rfl
theorem Nw.al (h : Nw n T) : allErr (imageP n T) = 0 := by rw [allErr, if_pos h.sizeOk, if_pos (by rw [h.parsed]; rfl)]
theorem Nw.allL (h : Nw n T) : allL (imageP n T) = [nwB n] := by rw [L15.allL, if_pos h.al, h.parsed]; rfl
theorem Nw.objs (h : Nw n T) : O19 (imageP n T) = [] := by rw [O19, h.allL]; rfl
theorem Nw.free (h : Nw n T) : freeL (imageP n T) = [nwB n] := by rw [freeL, h.allL]; rfl
theorem Nw.seen (h : Nw n T) : L19.seen (imageP n T) = ⟨T, [], List.replicate 16 .none⟩ := by
  rw [L19.seen, h.tyT, h.objs, h.slots, List.map_replicate]; rfl
end Go.Proofs.Ytodbbacmdjcheaa.L74
