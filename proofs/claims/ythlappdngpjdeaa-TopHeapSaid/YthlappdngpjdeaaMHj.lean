/- Contracts of the functions that the laws 'H' reach, part 10. No condition. -/
import Derived.Test.YthlappdngpjdeaaMHi
set_option linter.unusedVariables false
set_option linter.unusedSimpArgs false
namespace Go.Proofs.Ythlappdngpjdeaa.L19
open L02 L07 L13 L14 L15 L16 L18 L20
/-- the class of an extent, one higher -/
def bl (b : Hb) : Nat := Lib.bitLen b.size.toNat
def betterB (n : Int) (b : Hb) (o : Option Hb) : Bool := decide (n ≤ b.size) && (match o with | none => true | some x => decide (bl b < bl x))
/-- the first extent of the least class that is large enough -/
def takesF (n : Int) : List Hb → Option Hb → Option Hb
  | [], o => o
  | b :: L, o => takesF n L (if betterB n b o = true then some b else o)
def takes (L : List Hb) (n : Int) : Option Hb := takesF n L none
def RightN (n : Int) : Prop := 2 ≤ n ∧ n ≤ 10 ∧ n % 2 = 0
instance (n : Int) : Decidable (RightN n) := inferInstanceAs (Decidable (_ ∧ _ ∧ _))
theorem takesF_some {n : Int} : ∀ {L : List Hb} {o : Option Hb} {b : Hb}, takesF n L o = some b → o = some b ∨ (b ∈ L ∧ n ≤ b.size)
  | [], o, b, h => .inl h
  | c :: L, o, b, h => by
    rw [takesF] at h
    rcases takesF_some h with h1 | h1
    · split at h1
      · rename_i hb
        injection h1 with h1
        subst h1
        unfold betterB at hb
        rw [Bool.and_eq_true, decide_eq_true_iff] at hb
        exact .inr ⟨List.mem_cons_self, hb.1⟩
      · exact .inl h1
    · exact .inr ⟨List.mem_cons_of_mem _ h1.1, h1.2⟩
theorem takes_some {L : List Hb} {n : Int} {b : Hb} (h : takes L n = some b) : b ∈ L ∧ n ≤ b.size := by
  rcases takesF_some h with h1 | h1
  · cases h1
  · exact h1
/-- words one behind the other, as entries of a change -/
def runE : Int → List UInt64 → List (Int × UInt64)
  | _, [] => []
  | a, x :: xs => (a, x) :: runE (a + 1) xs
theorem runE_len : ∀ (xs : List UInt64) (a : Int), (runE a xs).length = xs.length
  | [], _ => rfl
  | x :: xs, a => by rw [runE, List.length_cons, List.length_cons, runE_len xs]
theorem runE_put : ∀ (xs : List UInt64) (l : List UInt64) (p : Nat), p + xs.length ≤ l.length → (runE (p : Int) xs).foldl put1 l = putW l p xs
  | [], l, p, h => rfl
  | x :: xs, l, p, h => by
    rw [List.length_cons] at h
    rw [runE, List.foldl_cons, put1_set (by omega), show (p : Int) + 1 = ((p + 1 : Nat) : Int) by omega, runE_put xs _ _ (by rw [List.length_set]; omega), putW]
theorem putW_set : ∀ (xs l : List UInt64) (p j : Nat) (v : UInt64), j < p → putW (l.set j v) p xs = (putW l p xs).set j v
  | [], l, p, j, v, h => rfl
  | x :: xs, l, p, j, v, h => by
    rw [putW, putW, List.set_comm _ _ (by omega), putW_set xs _ _ _ _ (by omega)]
def tyI (l : List UInt64) (t : Int) : List UInt8 := (T19 l).getD t.toNat []
def aiE (l : List UInt64) (t : Int) : Int := if chk19 l = 0 then (if 0 ≤ t ∧ t < (T19 l).length then (if next (slots l) = none then 23 else if (takes (freeL l) (sizT (tyI l t))).isSome then 0 else 20) else 2) else chk19 l
def aiB (l : List UInt64) (t : Int) : Hb := (takes (freeL l) (sizT (tyI l t))).getD .none
def aiK (l : List UInt64) : Nat := (next (slots l)).getD 0
def aiS (l : List UInt64) (t : Int) : Int := if aiE l t = 0 then (aiK l : Int) else 0
def aiG (l : List UInt64) (t : Int) : Int := if aiE l t = 0 then ((slots l).getD (aiK l) .none).gen + 1 else 0
def aiL (l : List UInt64) (t : Int) : List (Int × UInt64) := if aiE l t = 0 then (112 + (aiK l : Int), pk ⟨((slots l).getD (aiK l) .none).gen + 1, true, (aiB l t).at_⟩) :: runE (aiB l t).at_ (newW (aiB l t).at_.toNat (sizT (tyI l t)) t.toNat (aiB l t).size.toNat) else []
/-- an allocation that is done -/
structure Al (l : List UInt64) (q k p n c : Nat) (g0 : Int) (b : Hb) (t : List UInt8) (P S : List Hb) (l' : List UInt64) : Prop where
  rt : Rt l
  hT : (T19 l)[q]? = some t
  hn : n = sizT t
  hn2 : 2 ≤ n ∧ n ≤ 10 ∧ n % 2 = 0
  hk : k < 16
  hnx : next (slots l) = some k
  hs : (slots l)[k]? = some ⟨g0, false, 0⟩
  hg : 0 ≤ g0 ∧ g0 < 2147483647
  htk : takes (freeL l) (n : Int) = some b
  hbk : b.kind = 2
  hat : b.at_ = p
  hsz : b.size = c
  hc : n ≤ c ∧ c ≤ 1920 ∧ c % 2 = 0
  hp : 128 ≤ p ∧ p + c ≤ l.length
  hok : BkOk b
  hL : allL l = P ++ (b :: S)
  hE : aiE l q = 0
  hS : aiS l q = k
  hG : aiG l q = g0 + 1
  hAL : aiL l q = (112 + (k : Int), pk ⟨g0 + 1, true, (p : Int)⟩) :: runE (p : Int) (newW p n q c)
  hl : l' = (putW l p (newW p n q c)).set (112 + k) (pk ⟨g0 + 1, true, (p : Int)⟩)
  hmd : made l (aiL l q) = l'
  hr : Right ⟨g0 + 1, true, (p : Int)⟩
theorem Al.of {l : List UInt64} {ti : Int} (h : aiE l ti = 0) : ∃ q k p n c g0 b t P S, ti = ((q : Nat) : Int) ∧ Al l q k p n c g0 b t P S (made l (aiL l ti)) := by
  have h0 := h
  unfold aiE at h
  split at h
  case isFalse hc => exact absurd h hc
  case isTrue hc =>
  split at h
  case isFalse ht => omega
  case isTrue ht =>
  split at h
  case isTrue hx => omega
  case isFalse hx =>
  split at h
  case isFalse hb => omega
  case isTrue hb =>
  have rt : Rt l := Rt.of hc
  obtain ⟨q, rfl⟩ := Int.eq_ofNat_of_zero_le ht.1
  have hq : q < (T19 l).length := by omega
  have hT : (T19 l)[q]? = some (T19 l)[q] := List.getElem?_eq_getElem hq
  obtain ⟨t, htt⟩ : ∃ t, t = (T19 l)[q] := ⟨_, rfl⟩
  rw [← htt] at hT
  have hty : tyI l (q : Int) = t := by unfold tyI; rw [Int.toNat_natCast, List.getD_eq_getElem?_getD, hT]; rfl
  obtain ⟨k, hk⟩ := Option.ne_none_iff_exists'.1 hx
  obtain ⟨_, ⟨s, hs, hu, hg1⟩, _⟩ := nextFrom_some hk
  rw [Nat.sub_zero] at hs
  have hk16 : k < 16 := by have := (List.getElem?_eq_some_iff.1 hs).1; rw [slots_len' rt.sl] at this; exact this
  have hsr := seen_slot rt (List.mem_of_getElem? hs)
  obtain ⟨g0, u, a0⟩ := s
  dsimp only at hu hg1
  subst hu
  obtain rfl : a0 = 0 := hsr.2.2.1 rfl
  have hg0 := hsr.1; have hg2 := hsr.2.1
  dsimp only at hg0 hg2
  obtain ⟨b, hb⟩ := Option.isSome_iff_exists.1 hb
  rw [hty] at hb
  obtain ⟨hbm, hbs⟩ := takes_some hb
  obtain ⟨hbL, hbk⟩ := free_mem.1 hbm
  obtain ⟨a, a1, a2, a3, a4, a5⟩ := all_mem rt.al hbL
  have hz := szN_ge a3
  have hok : BkOk b := by rw [a4]; exact stand_ok a3
  have hbd := hok.bounds
  have hat : b.at_ = a := by rw [a4]; rfl
  have hsz : b.size = szN l a := by rw [a4]; exact stand_size a3
  obtain ⟨P, S, hPS⟩ := List.append_of_mem hbL
  have ht8 : t.length ≤ 8 := (kErr_ok ((T19_ok rt.ty).2 t (List.mem_of_getElem? hT))).1
  have hn2 : 2 ≤ sizT t ∧ sizT t ≤ 10 ∧ sizT t % 2 = 0 := by unfold sizT; omega
  have hgd : (slots l).getD k .none = ⟨g0, false, 0⟩ := by rw [List.getD_eq_getElem?_getD, hs]; rfl
  have hB : aiB l (q : Int) = b := by unfold aiB; rw [hty, hb]; rfl
  have hK : aiK l = k := by unfold aiK; rw [hk]; rfl
  have hcz : szN l a % 2 = 0 := hz.2.2.1
  have hAL : aiL l q = (112 + (k : Int), pk ⟨g0 + 1, true, (a : Int)⟩) :: runE (a : Int) (newW a (sizT t) q (szN l a)) := by
    unfold aiL
    rw [if_pos h0, hB, hK, hgd, hat, hsz, hty, Int.toNat_natCast, Int.toNat_natCast, Int.toNat_natCast]
  have hsl := rt.sz.2.1
  have hnl : (newW a (sizT t) q (szN l a)).length ≤ szN l a := by
    rw [newW_len (by omega)]; split <;> omega
  have hmd : made l (aiL l q) = (putW l a (newW a (sizT t) q (szN l a))).set (112 + k) (pk ⟨g0 + 1, true, (a : Int)⟩) := by
    rw [hAL]
    unfold made
    rw [List.take_of_length_le (by rw [List.length_cons, runE_len, newW_len (by omega)]; split <;> omega), List.foldl_cons]
    have : put1 l (112 + (k : Int), pk ⟨g0 + 1, true, (a : Int)⟩) = l.set (112 + k) (pk ⟨g0 + 1, true, (a : Int)⟩) := by
      have := put1_set (l := l) (p := 112 + k) (y := pk ⟨g0 + 1, true, (a : Int)⟩) (by omega)
      rw [show ((112 + k : Nat) : Int) = 112 + (k : Int) by omega] at this
      exact this
    rw [this, runE_put _ _ _ (by rw [List.length_set]; omega), putW_set _ _ _ _ _ (by omega)]
  refine ⟨q, k, a, sizT t, szN l a, g0, b, t, P, S, rfl, rt, hT, rfl, hn2, hk16, hk, hs, by omega, hb, hbk, hat, hsz, ⟨by omega, by omega, hcz⟩, ⟨a1, by omega⟩, hok, hPS, h0, by rw [aiS, if_pos h0, hK], by rw [aiG, if_pos h0, hK, hgd], hAL, by rw [hmd], rfl, ?_⟩
  exact ⟨by show 0 ≤ g0 + 1; omega, by show g0 + 1 ≤ 2147483647; omega, fun e => (by cases e), fun _ => ⟨by show 0 < g0 + 1; omega, by show (128 : Int) ≤ a; omega, by show (a : Int) < 2048; omega⟩⟩
section
variable {l l' : List UInt64} {q k p n c : Nat} {g0 : Int} {b : Hb} {t : List UInt8} {P S : List Hb}
/-- what an allocation makes of an image -/
theorem Al.after (h : Al l q k p n c g0 b t P S l') :
    allE (seen l) q = 0 ∧ allS (seen l) q = k ∧ allG (seen l) q = g0 + 1 ∧ Rt l' ∧ seen l' = numM (allM (seen l) q) (insN (O19 l).length (objs P).length) ∧ slots l' = (slots l).set k ⟨g0 + 1, true, (p : Int)⟩ ∧
      (∃ R, (R = [] ∧ c = n ∨ (∃ nx, R = [{ restH p n c with next := nx }]) ∧ c ≠ n) ∧ allL l' = P ++ (([objH p n q] ++ R) ++ S)) ∧ T19 l' = T19 l ∧ O19 l = objs P ++ objs S ∧ O19 l' = objs P ++ objH p n q :: objs S := by
  have hcs : b.size.toNat = c := by rw [h.hsz]; rfl
  obtain ⟨h1, h2, h3, h4, h5, h6, ⟨R, hR, h7⟩, h8, h9, h10⟩ := seen_alloc2 h.rt h.hL h.hbk h.hat h.hT h.hn (by rw [h.hsz]; have := h.hc; omega) h.hk h.hnx h.hs (l' := l') (by rw [hcs]; exact h.hl)
  rw [hcs, h.hsz] at hR
  refine ⟨h1, h2, h3, h4, h5, h6, ⟨R, ?_, h7⟩, h8, h9, h10⟩
  rcases hR with ⟨e1, e2⟩ | ⟨e1, e2⟩
  · exact .inl ⟨e1, by omega⟩
  · exact .inr ⟨⟨_, e1⟩, by omega⟩
end
end Go.Proofs.Ythlappdngpjdeaa.L19
namespace Go.Proofs.Ythlappdngpjdeaa
open Go.RowKit L01 L02 L05 L06 L07 L13 L14 L15 L16 L18 L19
set_option maxHeartbeats 4000000 in
set_option maxRecDepth 100000 in
theorem Len64_any (x : Int) (w : World) (h0 : 0 ≤ x) (h1 : x ≤ 1920) :
    Calls Try.prog 45 #[.int .u64 x] w fun e w' => e = .returned (.int .i64 (Lib.bitLen x.toNat)) ∧ w = w' := by
  have us := Try.underlying9
  have g1 : decide (4294967296 ≤ x) = false := decide_eq_false (by omega)
  have g2 : decide (65536 ≤ x) = false := decide_eq_false (by omega)
  by_cases hx : x < 256
  · have g3 : decide (256 ≤ x) = false := decide_eq_false (by omega)
    have i1 : ∀ W, (Instr.index 9 (.string Lib.len8tab) (.int .u8 x)).run Try.prog W = .ok (.int .u8 (Lib.len8 x)) W := fun W => Lib.run_index_len8tab W _ _ _ us h0 (by omega)
    have e1 : Lib.len8 x = (Lib.bitLen x.toNat : Int) := Lib.len8_of x h0 (by omega)
    have e2 := Lib.bitLen_le8' x h0 (by omega)
    have c1 : IntKind.u8.wrap x = x := by show x % 256 = x; omega
    rw [e1] at i1
    generalize hq : Lib.bitLen x.toNat = q at *
    have w1 : IntKind.i64.wrap (q : Int) = (q : Int) := IntWalk.i64_in _ (by omega)
    clear e1 hq
    go_enter Try.func45, Try.ntmps45
    go_wp2
    go_ret
    exact ⟨rfl, rfl⟩
  · have g3 : decide (256 ≤ x) = true := decide_eq_true (by omega)
    obtain ⟨y, hy⟩ : ∃ y, y = x / 256 := ⟨_, rfl⟩
    have i1 : ∀ W, (Instr.index 9 (.string Lib.len8tab) (.int .u8 y)).run Try.prog W = .ok (.int .u8 (Lib.len8 y)) W := fun W => Lib.run_index_len8tab W _ _ _ us (by omega) (by omega)
    have e1 : Lib.len8 y = (Lib.bitLen y.toNat : Int) := Lib.len8_of y (by omega) (by omega)
    have e2 := Lib.bitLen_le8' y (by omega) (by omega)
    have e3 := Lib.bitLen_shift8 x.toNat (by omega) (by omega)
    have e4 : y.toNat = x.toNat / 256 := by omega
    rw [← e4] at e3
    rw [e3]
    rw [e1] at i1
    generalize hq : Lib.bitLen y.toNat = q at *
    have w1 : IntKind.i64.wrap (q : Int) = (q : Int) := IntWalk.i64_in _ (by omega)
    have w2 : IntKind.i64.wrap (8 + (q : Int)) = 8 + (q : Int) := IntWalk.i64_in _ (by omega)
    have c1 : IntKind.u8.wrap y = y := by show y % 256 = y; omega
    have c2 : IntKind.u8.wrap (x / 256) = x / 256 := by show (x / 256) % 256 = x / 256; omega
    rw [hy] at i1
    clear e1 hq hy e3 e4 c1
    go_enter Try.func45, Try.ntmps45
    go_wp2
    go_ret
    exact ⟨rfl, rfl⟩
set_option maxHeartbeats 1000000 in
theorem Len_any (x : Int) (w : World) (h0 : 0 ≤ x) (h1 : x ≤ 1920) :
    Calls Try.prog 34 #[.int .u64 x] w fun e w' => e = .returned (.int .i64 (Lib.bitLen x.toNat)) ∧ w = w' := by
  have LT := Lib.hid (fun w => Len64_any x w h0 h1)
  generalize Lib.bitLen x.toNat = q at *
  clear h0 h1
  go_enter Try.func34, Try.ntmps34
  go_wp2_with fail
  refine (LT.out _).mono ?_
  rintro e w' ⟨rfl, rfl⟩
  go_wp2
  go_ret
  exact ⟨rfl, rfl⟩
theorem bitLen_two {n : Nat} (h : 2 ≤ n) (h2 : n ≤ 1920) : 2 ≤ Lib.bitLen n ∧ Lib.bitLen n ≤ 16 := by
  have h1 := Lib.bitLen_half n (by omega) (by omega)
  have h3 := Lib.bitLen_half (n / 2) (by omega) (by omega)
  by_cases h8 : n < 256
  · have := Lib.bitLen_le8' (n : Int) (by omega) (by omega)
    rw [Int.toNat_natCast] at this
    omega
  · have e := Lib.bitLen_shift8 n (by omega) (by omega)
    have := Lib.bitLen_le8' ((n / 256 : Nat) : Int) (by omega) (by omega)
    rw [Int.toNat_natCast] at this
    omega
set_option maxHeartbeats 1000000 in
/-- the class of a size -/
theorem Class_any (n : Int) (hn : 2 ≤ n ∧ n ≤ 1920) (w : World) :
    Calls Try.prog 21 #[.int .i64 n] w fun e w' => e = .returned (.tuple #[.int .i64 ((Lib.bitLen n.toNat : Int) - 1), .int .i64 0]) ∧ w = w' := by
  have LT := Lib.hid (fun w => Len_any n w (by omega) (by omega))
  have hb := bitLen_two (n := n.toNat) (by omega) (by omega)
  obtain ⟨hn1, hn2⟩ := hn
  generalize Lib.bitLen n.toNat = q at *
  have c1 : IntKind.u64.wrap n = n := by show n % 18446744073709551616 = n; omega
  have w1 : IntKind.i64.wrap ((q : Int) - 1) = (q : Int) - 1 := IntWalk.i64_in _ (by omega)
  have g1 : decide (n < 2) = false := decide_eq_false (by omega)
  have g2 : decide (1920 < n) = false := decide_eq_false (by omega)
  clear hb
  go_enter Try.func21, Try.ntmps21
  go_wp2_with fail
  refine (LT.out _).mono ?_
  rintro e w' ⟨rfl, rfl⟩
  go_wp2
  go_ret2
  exact ⟨rfl, rfl⟩
end Go.Proofs.Ythlappdngpjdeaa
namespace Go.Proofs.Ythlappdngpjdeaa
open Go.RowKit L02 L14 L15 L16 L19 L71
def wsLL (w W2 : World) (a : Int) (g k : Nat) (v : Value) : Nat → World
  | 0 => w.drew
  | 1 => w.drew.alloc (.cells #[.int .i64 a] 3)
  | 2 => W2
  | _ => W2.setCell ⟨g, k, none⟩ v
theorem free_bd {l : List UInt64} (h : allErr l = 0) {b : Hb} (hb : b ∈ freeL l) : 2 ≤ b.size ∧ b.size ≤ 1920 := by
  obtain ⟨a, h1, h2, h3, rfl, h5⟩ := all_mem h (free_mem.1 hb).1
  have := (stand_ok h3).bounds
  omega
theorem free_len {l : List UInt64} (h : allErr l = 0) : (freeL l).length ≤ 960 := Nat.le_trans (List.length_filter_le _ _) (all_len h)
set_option maxRecDepth 100000 in
set_option maxHeartbeats 8000000 in
theorem Lists_any (v : Value) (l : List UInt64) (F : List Hb) (hF : F = freeL l) (h0 : allErr l = 0) (w : World) (h : Words w v l) :
    Calls Try.prog 9 #[v] w fun e w' => ∃ x, e = .returned (.tuple #[x, .int .i64 0]) ∧ OwnLL w' w.heap.size x (listsB F) ∧ Below w.heap.size w w' := by
  have B : Below w.heap.size w w := Below.refl _ _
  have H := Lib.hid h
  have FT := Lib.hid (fun w h => FreeW_any v l F 0 hF h0.symm w h)
  have BD := Lib.hid (fun (b : Hb) (hb : b ∈ F) => free_bd h0 (by rw [← hF]; exact hb))
  obtain ⟨N, hN⟩ : ∃ N, N = F.length := ⟨_, rfl⟩
  have hN9 : N ≤ 960 := by rw [hN, hF]; exact free_len h0
  have HN := Lib.hid hN
  clear hF h0 h hN
  go_enter Try.func9, Try.ntmps9
  go_wp2_with fail
  refine (FT.out _ (H.out.below B)).mono ?_
  rintro e wa1 ⟨xl, rfl, ol, b⟩
  replace B := B.trans (b.mono B.size); clear b
  have HO := Lib.hid ol.rd
  have lx := HO.out.len
  rw [← HN.out] at lx
  have hB1 := B.size
  have HB := Lib.hid (And.intro B hB1)
  clear ol B hB1
  go_wp2_with (at_make; refine wpList_makeI (by rfl) rfl (by rfl) (by rfl) Try.underlying30 info_ints rfl (by omega) (by omega) (by omega) (Below.refl wa1.heap.size wa1) (Nat.le_refl _) ?_; intro v1 w1 o1 b1 b2)
  have OL : Hid (OwnLL w1 wa1.heap.size v1 (listsB []) ∧ Below wa1.heap.size wa1 w1) := Lib.hid ⟨by rw [listsB_nil]; exact OwnLL.nils o1, b1⟩
  clear o1 b1 b2
  go_loopg [22] N (fun g i wr => ∃ j : Nat, j ≤ N ∧ g = N - j ∧ i = .int .i64 j ∧ Hid (OwnLL wr wa1.heap.size v1 (listsB (F.take j)) ∧ Below wa1.heap.size wa1 wr))
  case atStart => exact ⟨0, by omega, by omega, rfl, OL⟩
  case round =>
    clear OL
    obtain ⟨j, hj, rfl, rfl, hh⟩ := hrel
    obtain ⟨oll, B⟩ := hh.out
    by_cases hlt : j < N
    · obtain ⟨bb, oo, b, ia, m0, m1, m2, m3, m4, m5, hb, _⟩ := (Blks.below HO.out B).at_ (k := j) (by rw [← HN.out]; exact hlt)
      have hbF : b ∈ F := List.mem_of_getElem? hb.out
      obtain ⟨c1, c2, c3⟩ := clsB_bd (BD.out b hbF)
      have htk : F.take (j + 1) = F.take j ++ [b] := by rw [List.take_add_one, hb.out]; rfl
      have HTK := Lib.hid htk
      have hlen : (listB (F.take j) (clsB b)).length ≤ 960 := Nat.le_trans (listB_le _ _) (by rw [List.length_take]; omega)
      have CL := Lib.hid (fun w => Class_any b.size (BD.out b hbF) w)
      rw [c3] at CL
      obtain ⟨q, hq⟩ : ∃ q, q = clsB b := ⟨_, rfl⟩
      rw [← hq] at CL c1 c2 hlen
      have HQ := Lib.hid hq
      clear htk hb hbF c3 hq hh
      go_upto_region 8 with (fail)
      refine wp_gen (fun Wv => Bx Wv (wr.heap.size) (38) (#[.int .i64 b.at_, .int .i64 b.size, .int .i64 b.kind, .int .i64 b.ty, .bool b.mark, .int .u64 b.next.toNat]) ∧ Below wr.heap.size wr Wv) ⟨((Bx.at_ (by simp))), ((Below.refl _ wr).alloc (by simp <;> omega) _)⟩ ?_
      rintro wa2 ⟨g2, b⟩
      replace oll := oll.below b; replace B := B.trans (b.mono B.size); clear b
      have c_g2 := g2.cell; have f_g2 := g2.free; have a_g2 := fun o => (g2.alloc o).cell; have d_g2 := fun o o2 => ((g2.alloc o).alloc o2).cell; have e_g2 := fun o => (g2.alloc o).free
      go_wp2_with fail
      refine (CL.out _).mono ?_
      rintro e w' ⟨rfl, rfl⟩
      obtain ⟨W0, hW0⟩ : ∃ W, W = wa2 := ⟨_, rfl⟩
      rw [← hW0] at g2 oll B c_g2 f_g2 a_g2 d_g2 e_g2 ⊢
      clear hW0 CL
      have hp2 := g2.lt
      obtain ⟨p2, hp2'⟩ : ∃ p, p = wr.heap.size := ⟨_, rfl⟩
      rw [← hp2'] at g2 c_g2 f_g2 a_g2 d_g2 e_g2 hp2 ⊢
      clear hp2'
      obtain ⟨gs, x, l0, hvb, ix, hcx, hfx, hBg, hgl, hl0, hx, hput⟩ := oll.at_ (k := q) (by rw [listsB_len]; omega)
      obtain rfl : l0 = listB (F.take j) q := by have := hl0.out; rw [listsB_at _ (by omega)] at this; injection this with e; exact e.symm
      obtain ⟨i0, i1, i2, i3, i4⟩ := info3 info_int
      have hb1 : Below W0.heap.size W0 (W0.drew.alloc (.cells #[.int .i64 b.at_] 3)) := (Below.refl W0.heap.size W0).drew.alloc (Nat.le_refl _) _
      have hx1 : OwnI (W0.drew.alloc (.cells #[.int .i64 b.at_] 3)) wa1.heap.size 3 x (listB (F.take j) q) := OwnI.below hx hb1
      have hlc : ∀ (j : Nat) u, [Value.int .i64 b.at_][j]? = some u → (W0.drew.alloc (.cells #[.int .i64 b.at_] 3)).cell? ((⟨W0.heap.size, 0, none⟩ : Addr).add j) = some u := fun j u hu => by
        rcases j with _ | j
        · injection hu with hu; subst hu
          exact (Bx.new W0.drew 3 #[.int .i64 b.at_]).cell 0
        · simp at hu
      obtain ⟨v2, W2, hrun, o2, gr, hfr⟩ := run_append_own2 (P := Try.prog) (w := W0.drew.alloc (.cells #[.int .i64 b.at_] 3)) wa1.heap.size 51 51 3 i0 (.int .i64 0) 1 8 Try.underlying51 i1 i2 i3 i4 rfl (by omega) x _ _ hx1 ⟨W0.heap.size, 0, none⟩ 1 1 [.int .i64 b.at_] rfl hlc (by simp [Value.oneCell']) (by unfold maxLen; omega) (by omega) (Nat.le_trans B.size hb1.size)
      obtain ⟨gv, cv, _, ev2, _⟩ := own_form o2 (by omega)
      subst ev2
      obtain ⟨P1, P2, P3⟩ := hput _ W2 (listB (F.take j) q ++ [b.at_]) _ hb1 gr (OwnI.of o2 (by simp [i64])) (fun g hg => by
        rcases hfr g hg with h | h
        · exact .inl h
        · exact .inr (Nat.le_trans hb1.size h))
      have hsn : listsB (F.take (j + 1)) = (listsB (F.take j)).set q (listB (F.take j) q ++ [b.at_]) := by rw [HTK.out, listsB_snoc (b := b) (by rw [← HQ.out]; omega), ← HQ.out]
      have b2 : Below wa1.heap.size wa1 W2 := (B.drew.alloc B.size _).grown gr (Nat.le_trans B.size hb1.size) (fun k hk => (World.ownsRow.lt hx1 k hk).1)
      have HW3 : Hid (OwnLL (W2.setCell ⟨gs, q, none⟩ (.slice (some ⟨gv, 0, none⟩) ((listB (F.take j) q).length + 1) cv)) wa1.heap.size v1 (listsB (F.take (j + 1))) ∧ Below wa1.heap.size wa1 (W2.setCell ⟨gs, q, none⟩ (.slice (some ⟨gv, 0, none⟩) ((listB (F.take j) q).length + 1) cv))) := Lib.hid ⟨by rw [hsn]; exact P1, b2.setCell hBg _⟩
      have ne2 : p2 ≠ gs := by
        obtain ⟨vs0, _, r0, _⟩ := oll
        rcases own_not_bx r0 g2 (by decide) with h | h
        · rw [h] at hvb; cases hvb
        · intro e; rw [e] at h; exact h hvb
      have g20 : Bx (wsLL W0 W2 b.at_ gs q (.slice (some ⟨gv, 0, none⟩) ((listB (F.take j) q).length + 1) cv) 0) p2 38 #[.int .i64 b.at_, .int .i64 b.size, .int .i64 b.kind, .int .i64 b.ty, .bool b.mark, .int .u64 b.next.toNat] := g2
      have g21 : Bx (wsLL W0 W2 b.at_ gs q (.slice (some ⟨gv, 0, none⟩) ((listB (F.take j) q).length + 1) cv) 1) p2 38 #[.int .i64 b.at_, .int .i64 b.size, .int .i64 b.kind, .int .i64 b.ty, .bool b.mark, .int .u64 b.next.toNat] := g20.alloc _
      have g22 : Bx (wsLL W0 W2 b.at_ gs q (.slice (some ⟨gv, 0, none⟩) ((listB (F.take j) q).length + 1) cv) 2) p2 38 #[.int .i64 b.at_, .int .i64 b.size, .int .i64 b.kind, .int .i64 b.ty, .bool b.mark, .int .u64 b.next.toNat] := Bx.grown g21 gr (own_not_bx hx1 g21 (by decide))
      have g23 : Bx (wsLL W0 W2 b.at_ gs q (.slice (some ⟨gv, 0, none⟩) ((listB (F.take j) q).length + 1) cv) 3) p2 38 #[.int .i64 b.at_, .int .i64 b.size, .int .i64 b.kind, .int .i64 b.ty, .bool b.mark, .int .u64 b.next.toNat] := g22.far (p := ⟨gs, q, none⟩) ne2 _
      have cg := fun y : FXN (FL [8, 9, 11] (wsLL W0 W2 b.at_ gs q (.slice (some ⟨gv, 0, none⟩) ((listB (F.take j) q).length + 1) cv)) 5 1) => FL.all (ks := [8, 9, 11]) (Ws := (wsLL W0 W2 b.at_ gs q (.slice (some ⟨gv, 0, none⟩) ((listB (F.take j) q).length + 1) cv))) (p := fun V => ∀ i, V.cell? ⟨p2, i, none⟩ = (#[.int .i64 b.at_, .int .i64 b.size, .int .i64 b.kind, .int .i64 b.ty, .bool b.mark, .int .u64 b.next.toNat] : Array Value)[i]?) (fun d hd => by
        rcases d with _ | _ | _ | _ | d
        · exact g20.cell
        · exact g21.cell
        · exact g22.cell
        · exact g23.cell
        · simp at hd) y
      have p0 : (wsLL W0 W2 b.at_ gs q (.slice (some ⟨gv, 0, none⟩) ((listB (F.take j) q).length + 1) cv) 0).cell? ⟨gs, q, none⟩ = some x := hcx
      have p1 : (wsLL W0 W2 b.at_ gs q (.slice (some ⟨gv, 0, none⟩) ((listB (F.take j) q).length + 1) cv) 1).cell? ⟨gs, q, none⟩ = some x := by
        have := Below.cell hb1 (p := ⟨gs, q, none⟩) hgl
        rw [show (wsLL W0 W2 b.at_ gs q (.slice (some ⟨gv, 0, none⟩) ((listB (F.take j) q).length + 1) cv) 1) = W0.drew.alloc (.cells #[.int .i64 b.at_] 3) from rfl, this]; exact hcx
      have HP := Lib.hid (And.intro P2 P3); have HP0 := Lib.hid (And.intro p0 p1); have HRUN := Lib.hid hrun
      clear c_g2 f_g2 a_g2 d_g2 e_g2 g2 g20 g21 g22 g23 p0 p1 P1 P2 P3 hsn b2 hlc hx1 hb1 hx hput hcx hfx hl0 hvb o2 gr hfr hrun oll B i1 i2 i3 i4 m0 m1 m2 m3 m4 m5 ia
      go_upto_region 11 with (fail)
      haveI : Nonempty (FXN (FL [8, 9, 11] (wsLL W0 W2 b.at_ gs q (.slice (some ⟨gv, 0, none⟩) ((listB (F.take j) q).length + 1) cv)) 5 1)) := ⟨⟨_, _, FL.start⟩⟩
      refine wp_region_N (FL [8, 9, 11] (wsLL W0 W2 b.at_ gs q (.slice (some ⟨gv, 0, none⟩) ((listB (F.take j) q).length + 1) cv)) 5 1) [5, 8, 9, 11] FL.dep (by kernel_rfl) (by kernel_rfl) (by kernel_rfl) FL.start ?_
      iterate 5 (refine wpN_read FL.dep rfl (by decide) ?_; go_big_quiet_step (fail); refine wpQuiet_nil ?_)
      refine wpN_step FL.dep rfl (by rfl) (v := x) [] rfl (fun f W hF h0 _ => ?_) ?_
      · obtain ⟨⟨d, hd, hd2, rfl⟩, hF'⟩ := FL.read (by decide) hF h0
        refine ⟨_, ?_, hF'⟩
        have hc : (wsLL W0 W2 b.at_ gs q (.slice (some ⟨gv, 0, none⟩) ((listB (F.take j) q).length + 1) cv) d).cell? ⟨gs, q, none⟩ = some x := by
          rcases d with _ | _ | d
          · exact HP0.out.1
          · exact HP0.out.2
          · omega
        simp [execOp, go_sem, hc]
      simp only [Act.put, List.setIfInBounds_toArray, List.set_cons_zero, List.set_cons_succ]
      iterate 2 (refine wpN_read FL.dep rfl (by decide) ?_; go_big_quiet_step (fail); refine wpQuiet_nil ?_)
      refine wpN_step FL.dep rfl (by rfl) (v := .slice (some ⟨W0.heap.size, 0, none⟩) 1 1) [] rfl (fun f W hF h0 h1 => ?_) ?_
      · obtain ⟨rfl, h2⟩ := FL.step (i := 0) rfl (by decide) hF h0 (by intro p hp; omega) (by omega)
        exact ⟨_, by simp [execOp, go_sem, wsLL], h2⟩
      simp only [Act.put, List.setIfInBounds_toArray, List.set_cons_zero, List.set_cons_succ]
      refine wpN_step FL.dep rfl (by rfl) (v := .slice (some ⟨gv, 0, none⟩) ((listB (F.take j) q).length + 1) cv) [8, 5] (by kernel_rfl) (fun f W hF h0 h1 => ?_) ?_
      · obtain ⟨rfl, h2⟩ := FL.step (i := 1) rfl (by decide) hF h0 (FL.prev (p := 0) (q := 8) rfl (h1 8 (by simp))) (fun _ => h1 5 (by simp))
        have hr := HRUN.out
        exact ⟨_, by simp [execOp, resolve, invoke, builtin, Act.eval, wsLL, hr], h2⟩
      simp only [Act.put, List.setIfInBounds_toArray, List.set_cons_zero, List.set_cons_succ]
      iterate 1 (refine wpN_read FL.dep rfl (by decide) ?_; go_big_quiet_step (fail); refine wpQuiet_nil ?_)
      refine wpN_storeD FL.dep rfl 51 (.tmp 45) (.tmp 44) rfl (by rfl) (p := .pointer (some ⟨gs, q, none⟩)) (u := .slice (some ⟨gv, 0, none⟩) ((listB (F.take j) q).length + 1) cv) (by rfl) (by rfl) [9] (by kernel_rfl) (fun f W' hF h0 h1 => ?_) ?_
      · obtain ⟨rfl, h2⟩ := FL.step (i := 2) rfl (by decide) hF h0 (FL.prev (p := 1) (q := 9) rfl (h1 9 (by simp))) (by omega)
        obtain ⟨z1, z2⟩ := HP.out
        refine ⟨_, ?_, h2⟩
        simp [go_sem, wsLL, z1, z2]
      simp only [Act.put, List.setIfInBounds_toArray, List.set_cons_zero, List.set_cons_succ]
      show ∀ w', _ → _
      intro w' hw'
      obtain rfl := FL.done hw'
      have hW : (wsLL W0 W2 b.at_ gs q (.slice (some ⟨gv, 0, none⟩) ((listB (F.take j) q).length + 1) cv) ([8, 9, 11] : List Nat).length) = W2.setCell ⟨gs, q, none⟩ (.slice (some ⟨gv, 0, none⟩) ((listB (F.take j) q).length + 1) cv) := rfl
      rw [hW]
      clear hw' hW cg HP HP0 HRUN this
      generalize W2.setCell ⟨gs, q, none⟩ (.slice (some ⟨gv, 0, none⟩) ((listB (F.take j) q).length + 1) cv) = V at HW3 ⊢
      go_wp2
      go_roundg (N - (j + 1))
      case measure => omega
      case rel => exact ⟨j + 1, by omega, rfl, by go_num, HW3⟩
    · obtain rfl : j = N := by omega
      have e : F.take j = F := by rw [HN.out, List.take_length]
      rw [e] at oll
      obtain ⟨B0, hB1⟩ := HB.out
      have HBZ : Hid (OwnLL wr w.heap.size v1 (listsB F) ∧ Below w.heap.size w wr) := Lib.hid ⟨OwnLL.mono oll hB1, B0.trans (B.mono hB1)⟩
      clear oll B B0 e hh
      go_wp2
      go_ret2
      exact ⟨_, rfl, HBZ.out⟩
end Go.Proofs.Ythlappdngpjdeaa
namespace Go.Proofs.Ythlappdngpjdeaa
open Go.RowKit L02 L14 L15 L16 L19 L71
theorem count_le (F : List Hb) (k : Nat) : countB F k ≤ F.length := by rw [countB_lt]; exact List.length_filter_le _ _
set_option maxRecDepth 100000 in
set_option maxHeartbeats 8000000 in
theorem listed18_any (xv lv : Value) (F : List Hb) (B0 : Nat) (hbd : ∀ b ∈ F, 2 ≤ b.size ∧ b.size ≤ 1920) (hn : F.length ≤ 960) (w : World) (hx : Blks w xv F) (hl : OwnLL w B0 lv (listsB F)) :
    Calls Try.prog 10 #[xv, lv] w fun e w' => e = .returned (.bool true) ∧ Below w.heap.size w w' := by
  have BB : Below w.heap.size w w := Below.refl _ _
  have H := Lib.hid hx; have HL := Lib.hid hl; have BD := Lib.hid hbd
  obtain ⟨N, hN⟩ : ∃ N, N = F.length := ⟨_, rfl⟩
  have hN9 : N ≤ 960 := by omega
  have HN := Lib.hid hN
  have lx := H.out.len
  rw [← HN.out] at lx
  have ll := hl.len
  rw [listsB_len] at ll
  have HBB := Lib.hid BB
  clear hx hl hbd hn hN BB
  go_enter Try.func10, Try.ntmps10
  go_wp2
  go_loopg [6] N (fun g i wr => ∃ j : Nat, j ≤ N ∧ g = N - j ∧ i = .int .i64 j ∧ Hid (Below w.heap.size w wr))
  case atStart => exact ⟨0, by omega, by omega, rfl, HBB⟩
  case round =>
    clear HBB
    obtain ⟨j, hj, rfl, rfl, hh⟩ := hrel
    have B := hh.out
    clear hh
    by_cases hlt : j < N
    · obtain ⟨bb, oo, b, ia, m0, m1, m2, m3, m4, m5, hb, _⟩ := (Blks.below H.out B).at_ (k := j) (by rw [← HN.out]; exact hlt)
      have hbF : b ∈ F := List.mem_of_getElem? hb.out
      obtain ⟨c1, c2, c3⟩ := clsB_bd (BD.out b hbF)
      have CL := Lib.hid (fun w => Class_any b.size (BD.out b hbF) w)
      rw [c3] at CL
      have hin := listB_mem hbF
      obtain ⟨q, hq⟩ : ∃ q, q = clsB b := ⟨_, rfl⟩
      rw [← hq] at CL c1 c2 hin
      obtain ⟨gs, x, l0, _, ix, hcx, _, _, _, hl0, hx, _⟩ := (HL.out.below B).at_ (k := q) (by rw [listsB_len]; omega)
      obtain rfl : l0 = listB F q := by have := hl0.out; rw [listsB_at _ (by omega)] at this; injection this with e; exact e.symm
      have lr := Rd.len hx.rd Try.underlying51
      obtain ⟨K, hK⟩ : ∃ K, K = (listB F q).length := ⟨_, rfl⟩
      rw [← hK] at lr
      have hK9 : K ≤ 960 := by rw [hK]; exact Nat.le_trans (listB_le F q) (by rw [← HN.out]; exact hN9)
      have HK := Lib.hid hK; have HIN := Lib.hid hin; have HX := Lib.hid hx; have HB := Lib.hid B
      have d1 : decide ((q : Int) < 1) = false := decide_eq_false (by omega)
      have d2 : decide ((10 : Int) < (q : Int)) = false := decide_eq_false (by omega)
      clear hb hbF c3 hq hK hin hl0 hx m2 m3 m4 m5
      go_wp2_with fail
      refine (CL.out _).mono ?_
      rintro e w' ⟨rfl, rfl⟩
      go_wp2
      clear CL
      go_loopg [9, 10] K (fun g fv i w2 => ∃ m : Nat, m ≤ K ∧ g = K - m ∧ i = .int .i64 m ∧ fv = .bool (decide (b.at_ ∈ (listB F q).take m)) ∧ Hid (Below wr.heap.size wr w2))
      case atStart => exact ⟨0, by omega, by omega, rfl, by simp, Lib.hid (Below.refl _ _)⟩
      case round =>
        obtain ⟨m, hm, rfl, rfl, rfl, hh⟩ := hrel
        have B := hh.out
        clear hh
        have m7 := cell_later B hcx
        have m6 := cell_later B m0
        by_cases hlt2 : m < K
        · obtain ⟨xa, y, iy, m8, hy⟩ := (Ints.below (HX.out.rd) B).at_ (P := Try.prog) Try.underlying51 one_int (k := m) (by rw [← HK.out]; exact hlt2)
          have hst : decide (b.at_ ∈ (listB F q).take (m + 1)) = (decide (b.at_ ∈ (listB F q).take m) || decide (y = b.at_)) := by
            rw [List.take_add_one, hy.out]
            simp [List.mem_append, eq_comm]
          have HST := Lib.hid hst
          obtain ⟨fb, hfb⟩ : ∃ c, c = decide (b.at_ ∈ (listB F q).take m) := ⟨_, rfl⟩
          rw [← hfb] at HST ⊢
          clear hst hy hfb
          cases fb
          · by_cases hy2 : y = b.at_
            · subst hy2
              rw [decide_eq_true rfl] at HST
              go_upto_region 12 with (fail)
              refine wp_region_calm (by kernel_rfl) (by kernel_rfl) ?_
              have c_m6 := fun x : Fut _ => cell_later x.h m6
              have c_m7 := fun x : Fut _ => cell_later x.h m7
              have c_m8 := fun x : Fut _ => cell_later x.h m8
              repeat (go_big_quiet_step (fail))
              refine wpQuiet_nil ?_
              intro _ hw'
              obtain ⟨xq, hw''⟩ := hw'
              subst hw''
              clear c_m6; replace m6 := cell_later xq.h m6
              clear c_m7; replace m7 := cell_later xq.h m7
              clear c_m8; replace m8 := cell_later xq.h m8
              replace B := B.trans (xq.h.mono B.size)
              have HBB := Lib.hid B
              clear m6 m7 m8
              go_wp2
              go_roundg (K - (m + 1))
              case measure => omega
              case rel => exact ⟨m + 1, by omega, rfl, by go_num, by rw [HST.out]; first | rfl | simp, HBB⟩
            · have e1 : (y == b.at_) = false := by rw [beq_eq_false_iff_ne]; exact hy2
              rw [decide_eq_false hy2] at HST
              go_upto_region 12 with (fail)
              refine wp_region_calm (by kernel_rfl) (by kernel_rfl) ?_
              have c_m6 := fun x : Fut _ => cell_later x.h m6
              have c_m7 := fun x : Fut _ => cell_later x.h m7
              have c_m8 := fun x : Fut _ => cell_later x.h m8
              repeat (go_big_quiet_step (fail))
              refine wpQuiet_nil ?_
              intro _ hw'
              obtain ⟨xq, hw''⟩ := hw'
              subst hw''
              clear c_m6; replace m6 := cell_later xq.h m6
              clear c_m7; replace m7 := cell_later xq.h m7
              clear c_m8; replace m8 := cell_later xq.h m8
              replace B := B.trans (xq.h.mono B.size)
              have HBB := Lib.hid B
              clear m6 m7 m8
              go_wp2
              go_roundg (K - (m + 1))
              case measure => omega
              case rel => exact ⟨m + 1, by omega, rfl, by go_num, by rw [HST.out]; first | rfl | simp, HBB⟩
          · rw [Bool.true_or] at HST
            go_upto_region 12 with (fail)
            refine wp_region_calm (by kernel_rfl) (by kernel_rfl) ?_
            have c_m6 := fun x : Fut _ => cell_later x.h m6
            have c_m7 := fun x : Fut _ => cell_later x.h m7
            have c_m8 := fun x : Fut _ => cell_later x.h m8
            repeat (go_big_quiet_step (fail))
            refine wpQuiet_nil ?_
            intro _ hw'
            obtain ⟨xq, hw''⟩ := hw'
            subst hw''
            clear c_m6; replace m6 := cell_later xq.h m6
            clear c_m7; replace m7 := cell_later xq.h m7
            clear c_m8; replace m8 := cell_later xq.h m8
            replace B := B.trans (xq.h.mono B.size)
            have HBB := Lib.hid B
            clear m6 m7 m8
            go_wp2
            go_roundg (K - (m + 1))
            case measure => omega
            case rel => exact ⟨m + 1, by omega, rfl, by go_num, by rw [HST.out], HBB⟩
        · obtain rfl : m = K := by omega
          have hf : decide (b.at_ ∈ (listB F q).take m) = true := by rw [HK.out, List.take_length]; exact decide_eq_true HIN.out
          rw [hf]
          have HBB := Lib.hid (HB.out.trans (B.mono HB.out.size))
          clear hf
          go_wp2
          go_roundg (N - (j + 1))
          case measure => omega
          case rel => exact ⟨j + 1, by omega, rfl, by go_num, HBB⟩
    · obtain rfl : j = N := by omega
      have HBB := Lib.hid B
      have hcl : ∀ b ∈ F, clsB b < 11 := fun b hb => by have := (clsB_bd (BD.out b hb)).2.1; omega
      have HC := Lib.hid (show countB F 11 = j by rw [countB_all hcl, HN.out])
      clear B hcl
      go_wp2
      go_loopg [5, 11] 11 (fun g nv i w2 => ∃ k : Nat, k ≤ 11 ∧ g = 11 - k ∧ i = .int .i64 k ∧ nv = .int .i64 (countB F k) ∧ Hid (Below w.heap.size w w2))
      case atStart => exact ⟨0, by omega, by omega, rfl, rfl, HBB⟩
      case round =>
        clear HBB
        obtain ⟨k, hk, rfl, rfl, rfl, hh⟩ := hrel
        have B := hh.out
        by_cases hlt2 : k < 11
        · obtain ⟨gs, x, l0, _, ix, hcx, _, _, _, hl0, hx, _⟩ := (HL.out.below B).at_ (k := k) (by rw [listsB_len]; omega)
          obtain rfl : l0 = listB F k := by have := hl0.out; rw [listsB_at _ (by omega)] at this; injection this with e; exact e.symm
          have lr := Rd.len hx.rd Try.underlying51
          have e0 : countB F (k + 1) = countB F k + (listB F k).length := rfl
          have e2 := count_le F (k + 1)
          have e3 := HN.out
          have hw : IntKind.i64.wrap ((countB F k : Int) + ((listB F k).length : Int)) = ((countB F (k + 1) : Nat) : Int) := by
            rw [IntWalk.i64_in _ (by omega), e0]; omega
          clear hl0 hx e0 e2 e3
          go_wp2
          go_roundg (11 - (k + 1))
          case measure => omega
          case rel => exact ⟨k + 1, by omega, rfl, by go_num, rfl, hh⟩
        · obtain rfl : k = 11 := by omega
          rw [HC.out]
          go_wp2
          go_ret
          exact ⟨rfl, B⟩
end Go.Proofs.Ythlappdngpjdeaa
namespace Go.Proofs.Ythlappdngpjdeaa
open Go.RowKit L01 L02 L05 L14 L15
/-- a word of a slice of the call's own -/
theorem OwnW.at_ {w : World} {base : Nat} {v : Value} {l : List UInt64} (h : OwnW w base 34 v l) {k : Nat} (hk : k < l.length) :
    ∃ ad, (∀ W, (Instr.indexAt 22 v (.int .i64 (k : Int))).run Try.prog W = .ok (.pointer (some ad)) W) ∧ w.cell? ad = some (.int .u64 (l.getD k 0).toNat) ∧ w.frozen? ad = false ∧ base ≤ ad.block ∧ v.ownBlock = some ad.block ∧ ∀ x : UInt64, OwnW (w.setCell ad (.int .u64 x.toNat)) base 34 v (l.set k x) := by
  obtain ⟨g, cap, cur, rfl, hB, hg, hnc, hcm, hcs, htake⟩ := own_form h (by omega)
  have hrd := Rd.of_own h
  have hix := fun W => Rd.ixN hrd Try.underlying22 one_u64 hk W
  have hcell := Rd.cell hrd (j := k) (u := .int .u64 (l.getD k 0).toNat) (by rw [List.getElem?_map, List.getElem?_eq_getElem hk, List.getD_eq_getElem?_getD, List.getElem?_eq_getElem hk]; rfl)
  have e1 : cellAt (.slice (some ⟨g, 0, none⟩) l.length cap) (k * 1) = ⟨g, k, none⟩ := by simp [cellAt]
  have e2 : cellAt (.slice (some ⟨g, 0, none⟩) l.length cap) k = ⟨g, k, none⟩ := by simp [cellAt]
  rw [e2] at hcell
  exact ⟨⟨g, k, none⟩, fun W => by rw [← e1]; exact hix W, hcell, World.ownsRow.frozenAt h k, hB, rfl, fun x => OwnW.set (World.ownsRow.stored h k _).1⟩
set_option maxRecDepth 100000 in
set_option maxHeartbeats 1000000 in
theorem LaidR_any (n : Nat) (v : Value) (L : List Hb) (hL : ∀ b ∈ L, BkOk b) (hl : L.length ≤ 1000) (hn : n ≤ 100000) (w : World) (h : Blks w v L) :
    Calls Try.prog 18 #[.int .i64 n, v] w fun e w' => ∃ x, e = .returned x ∧ OwnW w' w.heap.size 34 x (L19.laid n L) ∧ Below w.heap.size w w' := by
  have B : Below w.heap.size w w := Below.refl _ _
  have H := Lib.hid h; have HL := Lib.hid hL
  have lx := h.len
  obtain ⟨N, hN⟩ : ∃ N, N = L.length := ⟨_, rfl⟩
  rw [← hN] at lx hl
  have HN := Lib.hid hN
  clear h hL hN
  go_enter Try.func18, Try.ntmps18
  go_upto_region 2 with (at_make; refine wpList_makeI (by rfl) rfl (by rfl) (by rfl) Try.underlying22 info_u64 rfl (by omega) (by omega) (by omega) B (Nat.le_refl _) ?_; intro vS wb oS bS bS2)
  have o0 : OwnW wb w.heap.size 34 vS (List.replicate n 0) := OwnW.of oS (by rw [List.map_replicate]; rfl)
  have HO := Lib.hid (And.intro o0 bS)
  clear o0 oS bS bS2 B
  go_wp2
  go_loopg [6, 7] N (fun g av i wr => ∃ (a j : Nat) (l : List UInt64), j ≤ N ∧ a ≤ 2000000 ∧ g = N - j ∧ i = .int .i64 j ∧ av = .int .i64 a ∧ Hid (OwnW wr w.heap.size 34 vS l ∧ Below w.heap.size w wr ∧ L19.laidF n l a (L.drop j) = L19.laid n L ∧ l.length = n))
  case atStart => exact ⟨128, 0, List.replicate n 0, by omega, by omega, by omega, rfl, rfl, Lib.hid ⟨HO.out.1, HO.out.2, rfl, by simp⟩⟩
  case round =>
    obtain ⟨a, j, l, hj, ha, rfl, rfl, rfl, hh⟩ := hrel
    clear HO
    have o1 := hh.out.1
    have B := hh.out.2.1
    have hB0 := B.size
    by_cases hlt : j < N
    · obtain ⟨bb, oo, b, ia, m0, m1, m2, m3, m4, m5, hb, _⟩ := (Blks.below H.out B).at_ (k := j) (by rw [← HN.out]; exact hlt)
      have hbk := HL.out b (List.mem_of_getElem? hb.out)
      have hbd := hbk.bounds
      have hdr : L.drop j = b :: L.drop (j + 1) := List.drop_eq_getElem?_toList_append.trans (by rw [hb.out]; rfl)
      have hst := hh.out.2.2.1
      rw [hdr, L19.laidF] at hst
      have g1 : decide ((j : Int) < 1000) = true := decide_eq_true (by omega)
      have g2 : decide (j < 1000) = true := decide_eq_true (by omega)
      have g3 : decide ((j : Int) < (N : Int)) = true := decide_eq_true (by omega)
      have g4 : decide (j < N) = true := decide_eq_true hlt
      have hwa : IntKind.i64.wrap ((a : Int) + b.size) = (a : Int) + b.size := IntWalk.i64_in _ (by omega)
      by_cases hfit : (a : Int) + b.size ≤ n
      · rw [if_pos hfit] at hst
        have g5 : decide ((a : Int) + b.size ≤ (n : Int)) = true := decide_eq_true hfit
        obtain ⟨x, hx⟩ : ∃ x, x = L14.word b := ⟨_, rfl⟩
        have OT := Lib.hid (fun w => OfHR_any b hbk x hx w)
        rw [← hx] at hst
        have hln : l.length = n := hh.out.2.2.2
        have hw1 : IntKind.i64.wrap ((a : Int) + 1) = (a : Int) + 1 := IntWalk.i64_in _ (by omega)
        have HZ := Lib.hid (And.intro hst hln)
        have hbn : b.size.toNat ≤ 1920 := by omega
        have hfn : a + 2 ≤ n := by omega
        have HB := Lib.hid hb.out
        have HFN := Lib.hid (show a + b.size.toNat ≤ n ∧ 0 ≤ b.size by omega)
        clear hst hx hbk hdr hb hfit hbd
        go_wp2_with fail
        refine (OT.out _).mono ?_
        rintro e wa1 ⟨rfl, b⟩
        replace o1 := o1.below b; replace B := B.trans (b.mono B.size); clear b
        obtain ⟨ad, ia1, ca, fa, hb1, -, hst1⟩ := o1.at_ (k := a) (by rw [HZ.out.2]; omega)
        go_upto_region 7 with (fail)
        refine wp_gen (fun V => OwnW V w.heap.size 34 vS (l.set a x) ∧ Below w.heap.size w V) ⟨hst1 x, B.setCell (p := ad) hb1 _⟩ ?_
        clear o1 B ia1 ca fa hb1 hst1 ia m0 m1 m2 m3 m4 m5
        rintro V2 ⟨o2, B⟩
        obtain ⟨bb, oo, b2, ia, m0, m1, m2, m3, m4, m5, hb, _⟩ := (Blks.below H.out B).at_ (k := j) (by rw [← HN.out]; exact hlt)
        obtain rfl : b2 = b := by have := hb.out; rw [HB.out] at this; injection this with this; exact this.symm
        obtain ⟨ad, ia1, ca, fa, hb1, -, hst1⟩ := o2.at_ (k := a + 1) (by rw [List.length_set, HZ.out.2]; omega)
        clear hb
        have ia2 : ∀ W, (Instr.indexAt 22 vS (.int .i64 ((a : Int) + 1))).run Try.prog W = .ok (.pointer (some ad)) W := ia1
        clear ia1
        go_upto_region 8 with (fail)
        refine wp_gen (fun V => OwnW V w.heap.size 34 vS ((l.set a x).set (a + 1) b2.next) ∧ Below w.heap.size w V) ⟨hst1 b2.next, B.setCell (p := ad) hb1 _⟩ ?_
        clear o2 B ia2 ca fa hb1 hst1 ia m0 m1 m2 m3 m4 m5
        rintro V3 ⟨o3, B⟩
        obtain ⟨bb, oo, b3, ia, m0, m1, m2, m3, m4, m5, hb, _⟩ := (Blks.below H.out B).at_ (k := j) (by rw [← HN.out]; exact hlt)
        obtain rfl : b3 = b2 := by have := hb.out; rw [HB.out] at this; injection this with this; exact this.symm
        clear hb
        have HG := Lib.hid (And.intro o3 (And.intro B (And.intro HZ.out.1 (show ((l.set a x).set (a + 1) b3.next).length = n by rw [List.length_set, List.length_set]; exact HZ.out.2))))
        go_wp2
        go_roundg (N - (j + 1))
        case measure => omega
        case rel => exact ⟨a + b3.size.toNat, j + 1, _, by omega, by have := HFN.out; omega, rfl, by go_num, (by have := HFN.out; congr 1; omega), HG⟩
      · rw [if_neg hfit] at hst
        have g5 : decide ((a : Int) + b.size ≤ (n : Int)) = false := decide_eq_false hfit
        have HZ := Lib.hid hst
        clear hst hbk hdr hb hfit hbd
        go_wp2
        go_ret
        exact ⟨_, rfl, by rw [← HZ.out]; exact o1, B⟩
    · obtain rfl : j = N := by omega
      have hst := hh.out.2.2.1
      rw [HN.out, List.drop_length, L19.laidF] at hst
      have g3 : decide ((j : Int) < (j : Int)) = false := decide_eq_false (by omega)
      have HZ := Lib.hid hst
      clear hst
      go_wp2
      go_ret
      exact ⟨_, rfl, by rw [← HZ.out]; exact o1, B⟩
end Go.Proofs.Ythlappdngpjdeaa
namespace Go.Proofs.Ythlappdngpjdeaa
open Go.RowKit L02
def RetW (w : World) (l : List UInt64) (e : Ending) (w' : World) : Prop := ∃ v, e = .returned v ∧ OwnW w' w.heap.size 34 v l ∧ Below w.heap.size w w'
theorem Twin_any (v : Value) (l : List UInt64) (w : World) (h : Words w v l) (hl : l.length ≤ 1048576) : Calls Try.prog 29 #[v] w (RetW w l) := by
  have H := Lib.hid h; clear h
  go_enter Try.func29, Try.ntmps29
  go_wp2_with (at_builtin
               refine wpList_append (by rfl) rfl rfl rfl Try.underlying22 info_u64 rfl (by omega) (lit0_own (Nat.le_refl _)) (by exact H.out.alloc _) (one_u64s _) (by omega) (by omega) ((Below.refl _ w).alloc (Nat.le_refl _) _) (Nat.le_refl _) ?_
               intro v1 w1 hown hbel hv)
  go_ret
  exact ⟨v1, rfl, OwnW.of hown (by simp), hbel⟩
end Go.Proofs.Ythlappdngpjdeaa
namespace Go.Proofs.Ythlappdngpjdeaa
open Go.RowKit L02
end Go.Proofs.Ythlappdngpjdeaa
namespace Go.Proofs.Ythlappdngpjdeaa
open Go.RowKit L02 L05 L06 L07
end Go.Proofs.Ythlappdngpjdeaa
namespace Go.Proofs.Ythlappdngpjdeaa
open Go.RowKit L02 L05 L06 L07
/-- entries: two cells each -/
def eC (E : List (Int × UInt64)) : List Value := E.flatMap fun e => [.int .i64 e.1, .int .u64 e.2.toNat]
theorem eC_len (E : List (Int × UInt64)) : (eC E).length = E.length * 2 := by
  induction E with
  | nil => rfl
  | cons h H ih => simp only [eC, List.flatMap_cons, List.length_append, List.length_cons, List.length_nil] at *; omega
def Ents (w : World) (v : Value) (E : List (Int × UInt64)) : Prop := Rd w 2 v E.length (eC E)
def OwnE (w : World) (base : Nat) (v : Value) (E : List (Int × UInt64)) : Prop := w.ownsRow base 70 2 v E.length (eC E)
theorem OwnE.rd {w : World} {base : Nat} {v : Value} {E : List (Int × UInt64)} (h : OwnE w base v E) : Ents w v E := Rd.of_own h
theorem Ents.below {w w' : World} {v : Value} {E : List (Int × UInt64)} (h : Ents w v E) (hb : Below w.heap.size w w') : Ents w' v E := Rd.below h hb
theorem OwnE.below {w w' : World} {base : Nat} {v : Value} {E : List (Int × UInt64)} (h : OwnE w base v E) (hb : Below w.heap.size w w') : OwnE w' base v E := own_below h hb
theorem OwnE.nil (w : World) (base : Nat) : OwnE w base (.slice none 0 0) [] := World.ownsRow_nil w base _ 2
theorem OwnE.of {w : World} {B n : Nat} {v : Value} {xs : List Value} {E : List (Int × UInt64)} (h : w.ownsRow B 70 2 v n xs) (hx : xs = eC E) : OwnE w B v E := by
  subst hx
  have hn : n = E.length := by have := h.1; rw [eC_len] at this; omega
  subst hn; exact h
def hE (V : List UInt64) (l : List Int) : List (Int × UInt64) := l.map fun i => (i, V.getD i.toNat 0)
end Go.Proofs.Ythlappdngpjdeaa
namespace Go.Proofs.Ythlappdngpjdeaa
open Go.RowKit L01 L02 L05 L06 L07 L13 L14 L15 L18 L19
theorem findB_first : ∀ {L : List Hb} {a : Int} {j : Nat} {b : Hb}, L[j]? = some b → b.at_ = a → (∀ i c, i < j → L[i]? = some c → c.at_ ≠ a) → findB L a = some b
  | [], _, _, _, h, _, _ => by cases h
  | c :: L, a, 0, b, h, e, _ => by
    simp at h; subst h
    unfold findB
    rw [List.find?_cons_of_pos (by simpa using e)]
  | c :: L, a, j + 1, b, h, e, hz => by
    have hc := hz 0 c (by omega) rfl
    unfold findB
    rw [List.find?_cons_of_neg (by simpa using hc)]
    exact findB_first (by simpa using h) e (fun i c' hi hc' => hz (i + 1) c' (by omega) (by simpa using hc'))
theorem findB_none {L : List Hb} {a : Int} (h : ∀ b ∈ L, b.at_ ≠ a) : findB L a = none := by
  unfold findB
  rw [List.find?_eq_none]
  intro b hb
  simpa using h b hb
set_option maxRecDepth 100000 in
set_option maxHeartbeats 2000000 in
theorem Find_any (v : Value) (l : List UInt64) (a : Int) (b : Hb) (r : Int) (hb : b = find l a) (hr : r = findErr l a) (w : World) (h : Words w v l) :
    Calls Try.prog 15 #[v, .int .i64 a] w fun e w' => e = .returned (.tuple #[.agg #[.int .i64 b.at_, .int .i64 b.size, .int .i64 b.kind, .int .i64 b.ty, .bool b.mark, .int .u64 b.next.toNat], .int .i64 r]) ∧ Below w.heap.size w w' := by
  have B : Below w.heap.size w w := Below.refl _ _
  have H := Lib.hid h
  obtain ⟨L, hL⟩ : ∃ L, L = allL l := ⟨_, rfl⟩
  obtain ⟨c, hc⟩ : ∃ c, c = allErr l := ⟨_, rfl⟩
  have WT := Lib.hid (fun w h => AllW_any v l L c hL hc w h)
  by_cases h0 : c = 0
  case neg =>
    have hr0 : r = c := by rw [hr, findErr, if_neg (by rw [← hc]; exact h0), hc]
    have hb0 : b = .none := by rw [hb, find, if_neg (by rw [← hr, hr0]; exact h0)]
    subst hr0; subst hb0
    have n1 : (r != 0) = true := by rw [bne_iff_ne]; exact h0
    clear hb hr h hL hc h0
    go_enter Try.func15, Try.ntmps15
    go_upto_region 1 with (fail)
    refine wp_gen (fun Wv => Bx Wv (w.heap.size) (38) (#[.int .i64 0, .int .i64 0, .int .i64 0, .int .i64 0, .bool false, .int .u64 0]) ∧ Below w.heap.size w Wv) ⟨((Bx.at_ (by simp))), ((Below.refl _ w).alloc (by simp <;> omega) _)⟩ ?_
    rintro wa1 ⟨g1, b⟩
    replace B := B.trans (b.mono B.size); clear b
    have c_g1 := g1.cell; have f_g1 := g1.free; have a_g1 := fun o => (g1.alloc o).cell; have d_g1 := fun o o2 => ((g1.alloc o).alloc o2).cell; have e_g1 := fun o => (g1.alloc o).free
    go_wp2_with fail
    refine (WT.out _ (H.out.below B)).mono ?_
    rintro e wa2 ⟨xl, rfl, ol, b⟩
    try clear c_g1 f_g1 a_g1 d_g1 e_g1
    replace g1 := g1.below b; have c_g1 := g1.cell; have f_g1 := g1.free; have a_g1 := fun o => (g1.alloc o).cell; have d_g1 := fun o o2 => ((g1.alloc o).alloc o2).cell; have e_g1 := fun o => (g1.alloc o).free; replace B := B.trans (b.mono B.size); clear b
    go_wp2
    refine bodyPost_ret (v := .tuple #[.agg #[.int .i64 0, .int .i64 0, .int .i64 0, .int .i64 0, .bool false, .int .u64 0], .int .i64 r]) (by simp [results, Try.results15, go_sem, c_g1, f_g1, a_g1, e_g1]) rfl ?_
    refine ⟨rfl, ?_⟩
    (repeat (first | refine Below.setCell ?_ (by first | exact Nat.le_refl _ | (simp <;> omega)) _ | refine Below.alloc ?_ (by first | exact B.size | (have := B.size; simp <;> omega)) _)); exact B
  case pos =>
    subst h0
    have hl9 : L.length ≤ 960 := by rw [hL]; exact all_len hc.symm
    have hrb : (∀ x ∈ L, x.at_ = a → findB L a = some x → b = x ∧ r = 0) ∧ (findB L a = none → b = .none ∧ r = 6) := by
      constructor
      · intro x hx e hf
        have hr0 : r = 0 := by rw [hr, findErr, if_pos hc.symm, ← hL, hf]; rfl
        exact ⟨by rw [hb, find, if_pos (by rw [← hr]; exact hr0), ← hL, hf]; rfl, hr0⟩
      · intro hf
        have hr0 : r = 6 := by rw [hr, findErr, if_pos hc.symm, ← hL, hf]; rfl
        exact ⟨by rw [hb, find, if_neg (by rw [← hr, hr0]; decide)], hr0⟩
    obtain ⟨N, hN⟩ : ∃ N, N = L.length := ⟨_, rfl⟩
    have HN := Lib.hid hN; have HRB := Lib.hid hrb
    have hN9 : N ≤ 960 := by omega
    clear hb hr h hL hc hl9 hN hrb
    go_enter Try.func15, Try.ntmps15
    go_upto_region 1 with (fail)
    refine wp_gen (fun Wv => Bx Wv (w.heap.size) (38) (#[.int .i64 0, .int .i64 0, .int .i64 0, .int .i64 0, .bool false, .int .u64 0]) ∧ Below w.heap.size w Wv) ⟨((Bx.at_ (by simp))), ((Below.refl _ w).alloc (by simp <;> omega) _)⟩ ?_
    rintro wa1 ⟨g1, b⟩
    replace B := B.trans (b.mono B.size); clear b
    have c_g1 := g1.cell; have f_g1 := g1.free; have a_g1 := fun o => (g1.alloc o).cell; have d_g1 := fun o o2 => ((g1.alloc o).alloc o2).cell; have e_g1 := fun o => (g1.alloc o).free
    go_wp2_with fail
    refine (WT.out _ (H.out.below B)).mono ?_
    rintro e wa2 ⟨xl, rfl, ol, b⟩
    try clear c_g1 f_g1 a_g1 d_g1 e_g1
    replace g1 := g1.below b; have c_g1 := g1.cell; have f_g1 := g1.free; have a_g1 := fun o => (g1.alloc o).cell; have d_g1 := fun o o2 => ((g1.alloc o).alloc o2).cell; have e_g1 := fun o => (g1.alloc o).free; replace B := B.trans (b.mono B.size); clear b
    have lx := ol.rd.len
    rw [← HN.out] at lx
    have HO := Lib.hid ol.rd
    have hB1 := B.size; have hp1 := g1.lt
    have HB := Lib.hid (And.intro g1 B)
    have HBB := Lib.hid (Below.refl wa2.heap.size wa2)
    clear ol g1 B c_g1 f_g1 a_g1 d_g1 e_g1
    go_wp2
    go_loopg [21] N (fun g i wr => ∃ j : Nat, j ≤ N ∧ g = N - j ∧ i = .int .i64 j ∧ Hid (Below wa2.heap.size wa2 wr ∧ ∀ i c, i < j → L[i]? = some c → c.at_ ≠ a))
    case atStart => exact ⟨0, by omega, by omega, rfl, Lib.hid ⟨HBB.out, fun i c hi => by omega⟩⟩
    case round =>
      obtain ⟨j, hj, rfl, rfl, hh⟩ := hrel
      clear HBB
      have B2 := hh.out.1
      have HZ := Lib.hid hh.out.2
      have g1 := HB.out.1.below B2
      have B := HB.out.2.trans (B2.mono hB1)
      clear hh
      by_cases hlt : j < N
      · obtain ⟨bb, oo, x, ia, m0, m1, m2, m3, m4, m5, hx, _⟩ := (Blks.below HO.out B2).at_ (k := j) (by rw [← HN.out]; exact hlt)
        have HX := Lib.hid hx.out
        by_cases he : x.at_ = a
        · have k1 : (x.at_ == a) = true := by rw [beq_iff_eq]; exact he
          obtain ⟨q1, q2⟩ := HRB.out.1 x (List.mem_of_getElem? hx.out) he (findB_first hx.out he HZ.out)
          subst q2
          have HQ := Lib.hid q1
          have ne12 : w.heap.size ≠ wr.heap.size := by have := g1.lt; omega
          clear he q1 hx
          go_upto_region 7 with (fail)
          refine wp_gen (fun Wv => Bx Wv (wr.heap.size) (38) (#[.int .i64 x.at_, .int .i64 x.size, .int .i64 x.kind, .int .i64 x.ty, .bool x.mark, .int .u64 x.next.toNat]) ∧ Below wr.heap.size wr Wv) ⟨((Bx.at_ (by simp))), ((Below.refl _ wr).alloc (by simp <;> omega) _)⟩ ?_
          rintro wa3 ⟨g2, b⟩
          try clear c_g1 f_g1 a_g1 d_g1 e_g1
          replace g1 := g1.below b; have c_g1 := g1.cell; have f_g1 := g1.free; have a_g1 := fun o => (g1.alloc o).cell; have d_g1 := fun o o2 => ((g1.alloc o).alloc o2).cell; have e_g1 := fun o => (g1.alloc o).free; replace B2 := B2.trans (b.mono B2.size); replace B := B.trans (b.mono B.size); clear b
          have c_g2 := g2.cell; have f_g2 := g2.free; have a_g2 := fun o => (g2.alloc o).cell; have d_g2 := fun o o2 => ((g2.alloc o).alloc o2).cell; have e_g2 := fun o => (g2.alloc o).free
          go_wp2
          refine bodyPost_ret (v := .tuple #[.agg #[.int .i64 x.at_, .int .i64 x.size, .int .i64 x.kind, .int .i64 x.ty, .bool x.mark, .int .u64 x.next.toNat], .int .i64 0]) (by simp [results, Try.results15, go_sem, c_g1, f_g1, a_g1, e_g1, c_g2, f_g2, a_g2, e_g2]) rfl ?_
          refine ⟨by rw [HQ.out], ?_⟩
          (repeat (first | refine Below.setCell ?_ (by first | exact Nat.le_refl _ | (simp <;> omega)) _ | refine Below.alloc ?_ (by first | exact B.size | (have := B.size; simp <;> omega)) _)); exact B
        · have k1 : (x.at_ == a) = false := by rw [beq_eq_false_iff_ne]; exact he
          have HZ2 : Hid (∀ i c, i < j + 1 → L[i]? = some c → c.at_ ≠ a) := Lib.hid (fun i c hi hc => by
            by_cases e : i = j
            · subst e; rw [HX.out] at hc; injection hc with hc; subst hc; exact he
            · exact HZ.out i c (by omega) hc)
          clear he hx
          go_upto_region 7 with (fail)
          refine wp_gen (fun Wv => Bx Wv (wr.heap.size) (38) (#[.int .i64 x.at_, .int .i64 x.size, .int .i64 x.kind, .int .i64 x.ty, .bool x.mark, .int .u64 x.next.toNat]) ∧ Below wr.heap.size wr Wv) ⟨((Bx.at_ (by simp))), ((Below.refl _ wr).alloc (by simp <;> omega) _)⟩ ?_
          rintro wa4 ⟨g2, b⟩
          replace B2 := B2.trans (b.mono B2.size); replace B := B.trans (b.mono B.size); clear b
          have c_g2 := g2.cell; have f_g2 := g2.free; have a_g2 := fun o => (g2.alloc o).cell; have d_g2 := fun o o2 => ((g2.alloc o).alloc o2).cell; have e_g2 := fun o => (g2.alloc o).free
          have HQ := Lib.hid (And.intro B2 HZ2.out)
          go_wp2
          go_roundg (N - (j + 1))
          case measure => omega
          case rel => exact ⟨j + 1, by omega, rfl, by go_num, HQ⟩
      · obtain rfl : j = N := by omega
        have hf : findB L a = none := findB_none (fun y hy => by
          obtain ⟨i, hi⟩ := List.getElem?_of_mem hy
          exact HZ.out i y (by rw [HN.out]; exact (List.getElem?_eq_some_iff.1 hi).1) hi)
        obtain ⟨q1, q2⟩ := HRB.out.2 hf
        subst q2
        have HQ := Lib.hid q1
        clear hf q1
        have c_g1 := g1.cell; have f_g1 := g1.free
        go_wp2
        refine bodyPost_ret (v := .tuple #[.agg #[.int .i64 0, .int .i64 0, .int .i64 0, .int .i64 0, .bool false, .int .u64 0], .int .i64 6]) (by simp [results, Try.results15, go_sem, c_g1, f_g1]) rfl ?_
        refine ⟨by rw [HQ.out]; rfl, ?_⟩
        (repeat (first | refine Below.setCell ?_ (by first | exact Nat.le_refl _ | (simp <;> omega)) _ | refine Below.alloc ?_ (by first | exact B.size | (have := B.size; simp <;> omega)) _)); exact B
end Go.Proofs.Ythlappdngpjdeaa
namespace Go.Proofs.Ythlappdngpjdeaa
open Go Go.RowKit
section
variable {P : Program} {ops : Array Oper} {md : Region.Mode}
def uponV (Post : World → Prop) (v : Value) : Result Next → Prop
  | .ok (.value u) w' => u = v ∧ Post w'
  | .ok .skip w' => v = undef ∧ Post w'
  | _ => False
def YieldsV (P : Program) (md : Region.Mode) (ops : Array Oper) (C : Array Bool → World → Prop) (i : Nat) (o : Oper) (v : Value) (a : Act) : Prop :=
  (Region.wanted o (yielded ops a.tmps) = true ∧ ∀ listed w, i ∈ Region.ready md ops listed → C listed w → uponV (C (listed.setIfInBounds i true)) v ((execOp a.eval o).run P w)) ∨
  (Region.wanted o (yielded ops a.tmps) = false ∧ v = undef ∧ ∀ listed w, i ∈ Region.ready md ops listed → C listed w → C (listed.setIfInBounds i true) w)
/-- number k0 yields the value x, whatever its world; the others as they do -/
def YieldsG (P : Program) (md : Region.Mode) (ops : Array Oper) (C : Array Bool → World → Prop) (k0 : Nat) (x : Value) (i : Nat) (o : Oper) (v : Value) (a : Act) : Prop :=
  (i = k0 ∧ v = x ∧ Region.wanted o (yielded ops a.tmps) = true) ∨ (i ≠ k0 ∧ YieldsV P md ops C i o v a)
theorem YieldsV.of_same {C : Array Bool → World → Prop} {i : Nat} {o : Oper} {v : Value} {a a' : Act} (hy : YieldsV P md ops C i o v a) (he : execOp a'.eval o = execOp a.eval o)
    (hw : Region.wanted o (yielded ops a'.tmps) = Region.wanted o (yielded ops a.tmps)) : YieldsV P md ops C i o v a' := by
  unfold YieldsV at *
  rw [he, hw]
  exact hy
theorem YieldsG.of_same {C : Array Bool → World → Prop} {k0 : Nat} {x : Value} {i : Nat} {o : Oper} {v : Value} {a a' : Act} (hy : YieldsG P md ops C k0 x i o v a) (he : execOp a'.eval o = execOp a.eval o)
    (hw : Region.wanted o (yielded ops a'.tmps) = Region.wanted o (yielded ops a.tmps)) : YieldsG P md ops C k0 x i o v a' := by
  rcases hy with ⟨h1, h2, h3⟩ | ⟨h1, h2⟩
  · exact .inl ⟨h1, h2, by rw [hw]; exact h3⟩
  · exact .inr ⟨h1, h2.of_same he hw⟩
variable {C : Array Bool → World → Prop} {k0 : Nat} {x : Value} {T : Sem Next → Prop}
end
section
variable {P : Program} {ops : Array Oper} {rest : List Oper} {o : Oper} {a : Act} {Q : Act → Prop} {F : (Nat → Bool) → World → Prop} {js : List Nat} {k k0 : Nat} {md : Region.Mode} {x : Value} {T : Sem Next → Prop}
end
end Go.Proofs.Ythlappdngpjdeaa
namespace Go.Proofs.Ythlappdngpjdeaa
open Go Go.RowKit
section
variable {P : Program} {ops : Array Oper} {md : Region.Mode}
/-- a number of nn yields its value, whatever its world; the others as they do -/
def YieldsM (P : Program) (md : Region.Mode) (ops : Array Oper) (C : Array Bool → World → Prop) (nn : Nat → Bool) (x : Nat → Value) (i : Nat) (o : Oper) (v : Value) (a : Act) : Prop :=
  (nn i = true ∧ v = x i ∧ Region.wanted o (yielded ops a.tmps) = true) ∨ (nn i = false ∧ YieldsV P md ops C i o v a)
theorem YieldsM.of_same {C : Array Bool → World → Prop} {nn : Nat → Bool} {x : Nat → Value} {i : Nat} {o : Oper} {v : Value} {a a' : Act} (hy : YieldsM P md ops C nn x i o v a) (he : execOp a'.eval o = execOp a.eval o)
    (hw : Region.wanted o (yielded ops a'.tmps) = Region.wanted o (yielded ops a.tmps)) : YieldsM P md ops C nn x i o v a' := by
  rcases hy with ⟨h1, h2, h3⟩ | ⟨h1, h2⟩
  · exact .inl ⟨h1, h2, by rw [hw]; exact h3⟩
  · exact .inr ⟨h1, h2.of_same he hw⟩
variable {C : Array Bool → World → Prop} {nn : Nat → Bool} {x : Nat → Value} {T : Nat → Sem Next → Prop}
def uponN (P : Program) (Post : Value → World → Prop) : Result Next → Prop
  | .ok (.value u) w' => Post u w'
  | .ok (.enter f args) w' => Calls P f args w' (fun e w'' => ∃ u, e = .returned u ∧ Post u w'')
  | _ => False
end
section
variable {P : Program} {ops : Array Oper} {rest : List Oper} {o : Oper} {a : Act} {Q : Act → Prop} {F : (Nat → Bool) → World → Prop} {js : List Nat} {k : Nat} {nn : Nat → Bool} {md : Region.Mode} {x : Nat → Value} {T : Nat → Sem Next → Prop}
end
end Go.Proofs.Ythlappdngpjdeaa
