/- Contracts of the functions that the laws 'K' reach, part 5. No condition. -/
import Derived.Test.YtodbbacmdjcheaaMKd
set_option linter.unusedVariables false
set_option linter.unusedSimpArgs false
namespace Go.Proofs.Ytodbbacmdjcheaa
open Go.RowKit Go.Shelf L02 L05 L06 L13 L14 L19 L73
/-- P36.1: the error of words and types -/
def imgErr (n : Int) (T : List (List UInt8)) : Int := if ¬ SizeOk n then 2 else if 8 < T.length then 4 else errT T
def imgP (n : Int) (T : List (List UInt8)) : List UInt64 := if imgErr n T = 0 then imageP n.toNat T else []
theorem own_atM {A B : World} {Bs e sz n M : Nat} {v : Value} {xs : List Value} (h : A.ownsRow Bs e sz v n xs) (hv : ∀ g, v.ownBlock = some g → g < M) (hb : Below M A B) : B.ownsRow Bs e sz v n xs := by
  refine ⟨h.1, h.2.imp id ?_⟩
  rintro ⟨g, cap, cur, h1, h2, h3, h4⟩
  exact ⟨g, cap, cur, h1, h2, (hb.block g (hv g (by rw [h1]; rfl))).trans h3, h4⟩
theorem own_one94 {w : World} {B E : Nat} {v : Value} {l : List UInt64} (h : OwnW w B E v l) : ∃ A n c, v = .slice A n c := by
  obtain ⟨A, c, h, _⟩ := Rd.of_own h; exact ⟨A, _, c, h⟩
theorem arr_words94 {w : World} {g : Nat} {t : TypeId} {a b : UInt64} (h : Bx w g t #[.int .u64 a.toNat, .int .u64 b.toNat]) : Rd w 1 (.slice (some ⟨g, 0, none⟩) 2 2) 2 ([a, b].map u64) :=
  part_words (w := w) (g := g) (n := 2) (c := 2) (cs := #[.int .u64 a.toNat, .int .u64 b.toNat]) [a, b] h rfl rfl rfl (by show 2 ≤ 1048576; omega)
theorem bx_at {A B : World} {g M : Nat} {t : TypeId} {cs : Array Value} (h : Bx A g t cs) (hg : g < M) (hb : Below M A B) : Bx B g t cs := (hb.block g hg).trans h
/-- the state of Image between two rounds -/
structure ImgJ (w A : World) (M g6 g7 tb eb : Nat) (ev : Int) (v tv : Value) (l : List UInt64) : Prop where
  own : OwnW A w.heap.size 64 v l
  blk : ∀ g, v.ownBlock = some g → g < g6
  bel : Below w.heap.size w A
  b6 : Bx A g6 25 #[v]
  b7 : Bx A g7 26 #[.int .i64 ev]
  ct : Bx A tb 22 #[tv]
  ce : Bx A eb 75 #[.pointer (some ⟨g7, 0, none⟩)]
  le : w.heap.size ≤ g6 ∧ g6 < g7 ∧ g7 < tb ∧ tb < eb ∧ eb < M
section
variable {w A B : World} {M g6 g7 tb eb : Nat} {ev : Int} {v tv : Value} {l l' : List UInt64}
theorem ImgJ.below (h : ImgJ w A M g6 g7 tb eb ev v tv l) (hb : Below M A B) : ImgJ w B M g6 g7 tb eb ev v tv l := by
  obtain ⟨h1, h2, h3, h4, h5, h6, h7, h8⟩ := h
  exact ⟨own_atM h1 (fun g hg => by have := h2 g hg; omega) hb, h2, h3.trans (hb.mono (by omega)), bx_at h4 (by omega) hb, bx_at h5 (by omega) hb, bx_at h6 (by omega) hb, bx_at h7 (by omega) hb, h8⟩
theorem ImgJ.grown (h : ImgJ w A M g6 g7 tb eb ev v tv l) (o : OwnW B w.heap.size 64 v l') (b : Below w.heap.size A B) (g : A.grownBy B v.ownBlock) : KeepsFrom M A B ∧ ImgJ w B M g6 g7 tb eb ev v tv l' := by
  obtain ⟨h1, h2, h3, h4, h5, h6, h7, h8⟩ := h
  have ne : ∀ k, g6 ≤ k → v.ownBlock = none ∨ v.ownBlock ≠ some k := fun k hk => .inr fun e => by have := h2 k e; omega
  exact ⟨KeepsFrom.of_grownBy g fun j hj => by have := h2 j hj; omega,
    o, h2, h3.trans b, h4.grown g (ne _ (by omega)), h5.grown g (ne _ (by omega)), h6.grown g (ne _ (by omega)), h7.grown g (ne _ (by omega)), h8⟩
theorem ImgJ.err (h : ImgJ w A M g6 g7 tb eb ev v tv l) (e' : Int) : ImgJ w (A.setCell ⟨g7, 0, none⟩ (.int .i64 e')) M g6 g7 tb eb e' v tv l := by
  obtain ⟨h1, h2, h3, h4, h5, h6, h7, h8⟩ := h
  have ne : v.ownBlock = none ∨ v.ownBlock ≠ some g7 := .inr fun e => by have := h2 g7 e; omega
  exact ⟨World.ownsRow.kept h1 (grownBy_setCell' A g7 _) ne, h2, h3.setCell (p := ⟨g7, 0, none⟩) (by show _ ≤ g7; omega) _, h4.far (by show g6 ≠ g7; omega) _, h5.set _, h6.far (by show tb ≠ g7; omega) _, h7.far (by show eb ≠ g7; omega) _, h8⟩
/-- .. behind the loop: the block of the rounds' deferred calls is there -/
def ImgD (w A : World) (M g6 g7 tb eb : Nat) (ev : Int) (v tv : Value) (l : List UInt64) : Prop := ImgJ w A M g6 g7 tb eb ev v tv l ∧ A.heap[M]? = some (.deferred (some []))
theorem ImgD.below (h : ImgD w A M g6 g7 tb eb ev v tv l) (hb : Below A.heap.size A B) : ImgD w B M g6 g7 tb eb ev v tv l := by
  have hlt := (Array.getElem?_eq_some_iff.1 h.2).1
  exact ⟨h.1.below (hb.mono (by omega)), (hb.block _ hlt).trans h.2⟩
theorem ImgD.err (h : ImgD w A M g6 g7 tb eb ev v tv l) (e' : Int) : ImgD w (A.setCell ⟨g7, 0, none⟩ (.int .i64 e')) M g6 g7 tb eb e' v tv l :=
  ⟨h.1.err e', (KeepsOthers.setCell A _ _).same M _ h.2 rfl⟩
theorem ImgD.grown (h : ImgD w A M g6 g7 tb eb ev v tv l) (o : OwnW B w.heap.size 64 v l') (b : Below w.heap.size A B) (g : A.grownBy B v.ownBlock) : ImgD w B M g6 g7 tb eb ev v tv l' := by
  obtain ⟨h1, h2⟩ := h.1.grown o b g
  exact ⟨h2, h1.same M _ (Nat.le_refl _) h.2 rfl⟩
/-- a row of the call's own, younger than the image -/
theorem own_far94 {Bs e sz n : Nat} {x : Value} {xs : List Value} {row : Option Nat} (h : A.ownsRow Bs e sz x n xs) (g : A.grownBy B row) (hr : ∀ j, row = some j → j < Bs) : B.ownsRow Bs e sz x n xs := by
  refine World.ownsRow.kept h g ?_
  cases hx : x.ownBlock with
  | none => exact .inl rfl
  | some j =>
    refine .inr fun e' => ?_
    have := (h.lt j hx).1
    have := hr j e'.symm
    omega
/-- put, seen from Image -/
theorem putD_any (hD : ImgD w A M g6 g7 tb eb ev v tv l) {m : List UInt64} {a : Nat} {z : Int} {sv : Value} (hz : z = a) (hm : a + m.length ≤ l.length) (hs : Rd A 1 sv m.length (m.map u64)) :
    Calls Try.prog 28 #[v, .int .i64 z, sv] A fun e B => (∃ u, e = .returned u) ∧ ImgD w B M g6 g7 tb eb ev v tv (putW l a m) ∧ A.grownBy B v.ownBlock := by
  subst hz
  refine (put_any v sv l m a w.heap.size hm A hD.1.own hs hD.1.bel.size).mono ?_
  rintro e B ⟨h1, h2, h3, h4⟩
  exact ⟨h1, hD.grown h2 h3 h4, h4⟩
/-- the function's end: the block is shut -/
theorem ImgD.shut (h : ImgD w A M g6 g7 tb eb ev v tv l) : ImgJ w (A.putObj M (.deferred none)) M g6 g7 tb eb ev v tv l := h.1.below (RF.put_below _ (Nat.le_refl _))
end
set_option maxRecDepth 100000 in
set_option maxHeartbeats 4000000 in
theorem Image_any (n : Int) (tv : Value) (T : List (List UInt8)) (w : World) (h : Typs w tv T) : Calls Try.prog 10 #[.int .i64 n, tv] w (RetWE w (imgP n T) (imgErr n T)) := by
  have B : Below w.heap.size w w := Below.refl _ _
  have HB := Lib.hid B
  by_cases hs : ¬ SizeOk n
  · have hne : newErr n = 2 := by simp [newErr, hs]
    have hnw : new n = [] := by simp [new, hs]
    have hE : imgErr n T = 2 := by rw [imgErr, if_pos hs]
    have hI : imgP n T = [] := by rw [imgP, hE, if_neg (by decide)]
    rw [hE, hI]
    have NT := Lib.hid (fun w => (show Calls Try.prog 26 #[.int .i64 n] w (RetWE w [] 2) from by have := New_any n w; rw [hne, hnw] at this; exact this))
    clear hne hnw hE hI hs
    go_enter Try.func10, Try.ntmps10
    go_wp2_with fail
    refine (NT.out _).mono ?_
    rintro e w1 ⟨v, rfl, o, b⟩
    obtain ⟨A0, n0, c0, rfl⟩ := own_one94 o
    replace B := B.trans b; clear b o
    go_upto_region 2 with (fail)
    refine wp_gen (fun Wv => Bx Wv (w1.heap.size) (25) (#[.slice A0 n0 c0]) ∧ Bx Wv (w1.heap.size + 1) (26) (#[.int .i64 2]) ∧ Below w1.heap.size w1 Wv) ⟨(((Bx.at_ (by simp)).alloc _)), ((Bx.at_ (by simp))), (((Below.refl _ w1).alloc (by simp <;> omega) _).alloc (by simp <;> omega) _)⟩ ?_
    rintro wa1 ⟨g6, g7, b⟩
    replace B := B.trans (b.mono B.size); clear b
    have c_g6 := g6.cell; have f_g6 := g6.free; have a_g6 := fun o => (g6.alloc o).cell; have d_g6 := fun o o2 => ((g6.alloc o).alloc o2).cell; have e_g6 := fun o => (g6.alloc o).free
    have c_g7 := g7.cell; have f_g7 := g7.free; have a_g7 := fun o => (g7.alloc o).cell; have d_g7 := fun o o2 => ((g7.alloc o).alloc o2).cell; have e_g7 := fun o => (g7.alloc o).free
    go_wp2_with fail
    go_big_quiet (fail)
    go_wp2
    go_ret2
    exact ⟨_, rfl, OwnW.nil _ _ _, ⟨B.os, B.tape, B.output, B.size, B.block⟩⟩
  · have hs' : SizeOk n := Decidable.not_not.1 hs
    have hne : newErr n = 0 := by simp [newErr, hs']
    obtain ⟨N, rfl⟩ := Int.eq_ofNat_of_zero_le (show 0 ≤ n by have := hs'.1; omega)
    have hnw : new (N : Int) = List.replicate N 0 := by simp [new, hs']
    have hN : 256 ≤ N ∧ N ≤ 2048 := by have := hs'.1; have := hs'.2.1; omega
    have NT := Lib.hid (fun w => (show Calls Try.prog 26 #[.int .i64 N] w (RetWE w (List.replicate N 0) 0) from by have := New_any N w; rw [hne, hnw] at this; exact this))
    have TL := h.len
    have HT := Lib.hid h
    by_cases h8 : 8 < T.length
    · have hE : imgErr N T = 4 := by rw [imgErr, if_neg hs, if_pos h8]
      have hI : imgP N T = [] := by rw [imgP, hE, if_neg (by decide)]
      rw [hE, hI]
      have h8' : (8 : Int) < T.length := by omega
      obtain ⟨t, ht⟩ : ∃ t, t = T.length := ⟨_, rfl⟩
      rw [← ht] at TL h8'
      clear hne hnw hE hI hs hs' ht h8 h hN
      go_enter Try.func10, Try.ntmps10
      go_wp2_with fail
      refine (NT.out _).mono ?_
      rintro e w1 ⟨v, rfl, o, b⟩
      obtain ⟨A0, n0, c0, rfl⟩ := own_one94 o
      replace B := B.trans b; clear b o
      go_upto_region 2 with (fail)
      refine wp_gen (fun Wv => Bx Wv (w1.heap.size) (25) (#[.slice A0 n0 c0]) ∧ Bx Wv (w1.heap.size + 1) (26) (#[.int .i64 0]) ∧ Below w1.heap.size w1 Wv) ⟨(((Bx.at_ (by simp)).alloc _)), ((Bx.at_ (by simp))), (((Below.refl _ w1).alloc (by simp <;> omega) _).alloc (by simp <;> omega) _)⟩ ?_
      rintro wa1 ⟨g6, g7, b⟩
      replace B := B.trans (b.mono B.size); clear b
      have c_g6 := g6.cell; have f_g6 := g6.free; have a_g6 := fun o => (g6.alloc o).cell; have d_g6 := fun o o2 => ((g6.alloc o).alloc o2).cell; have e_g6 := fun o => (g6.alloc o).free
      have c_g7 := g7.cell; have f_g7 := g7.free; have a_g7 := fun o => (g7.alloc o).cell; have d_g7 := fun o o2 => ((g7.alloc o).alloc o2).cell; have e_g7 := fun o => (g7.alloc o).free
      go_wp2
      go_ret2
      exact ⟨_, rfl, OwnW.nil _ _ _, B⟩
    · have h8' : (T.length : Int) ≤ 8 := by omega
      obtain ⟨t, ht⟩ : ∃ t, t = T.length := ⟨_, rfl⟩
      rw [← ht] at TL h8'
      have HE := Lib.hid (show imgErr N T = errT T from by rw [imgErr, if_neg hs, if_neg h8])
      have HTL := Lib.hid ht; have HS := Lib.hid hs'; have HN := Lib.hid hN; have HN0 := Lib.hid hN
      clear hne hnw hs hs' ht h8 h hN
      refine (callsIn_wide (n := 3)).1 ?_
      refine callsIn_of_wp_marks Try.func10 rfl trivial ?_ rfl
      simp only [Try.ntmps10, List.size_toArray, List.length_cons, List.length_nil, Nat.reduceAdd, Nat.reduceSub, Array.replicate_succ, Array.replicate_zero, List.push_toArray, List.append_toArray, List.nil_append, List.cons_append]
      refine wpIn_wide.2 ?_
      go_wp2_with fail
      refine (NT.out _).mono ?_
      rintro e w1 ⟨v, rfl, o, b⟩
      obtain ⟨A0, n0, c0, rfl⟩ := own_one94 o
      replace B := B.trans b; clear b
      have HW := Lib.hid B.size
      have HG := Lib.hid (fun g hg => (o.lt g hg).2)
      go_upto_region 2 with (fail)
      refine wp_gen (fun Wv => Bx Wv (w1.heap.size) (25) (#[.slice A0 n0 c0]) ∧ Bx Wv (w1.heap.size + 1) (26) (#[.int .i64 0]) ∧ Below w1.heap.size w1 Wv) ⟨(((Bx.at_ (by simp)).alloc _)), ((Bx.at_ (by simp))), (((Below.refl _ w1).alloc (by simp <;> omega) _).alloc (by simp <;> omega) _)⟩ ?_
      rintro wa1 ⟨g6, g7, b⟩
      replace o := o.below b; replace B := B.trans (b.mono B.size); clear b
      have c_g6 := g6.cell; have f_g6 := g6.free; have a_g6 := fun o => (g6.alloc o).cell; have d_g6 := fun o o2 => ((g6.alloc o).alloc o2).cell; have e_g6 := fun o => (g6.alloc o).free
      have c_g7 := g7.cell; have f_g7 := g7.free; have a_g7 := fun o => (g7.alloc o).cell; have d_g7 := fun o o2 => ((g7.alloc o).alloc o2).cell; have e_g7 := fun o => (g7.alloc o).free
      go_wp2_with fail
      refine (wordsT_any tv T _ _ (HT.out.below B)).mono ?_
      rintro e w2 ⟨rfl, rfl⟩
      have J0 : ImgJ w ((wa1.alloc (.cells #[tv] 22)).alloc (.cells #[.pointer (some ⟨w1.heap.size + 1, 0, none⟩)] 75)) (wa1.heap.size + 2) w1.heap.size (w1.heap.size + 1) wa1.heap.size (wa1.heap.size + 1) 0 (.slice A0 n0 c0) tv (List.replicate N 0) := by
        have a1 : Below wa1.heap.size wa1 ((wa1.alloc (.cells #[tv] 22)).alloc (.cells #[.pointer (some ⟨w1.heap.size + 1, 0, none⟩)] 75)) := ((Below.refl _ _).alloc (Nat.le_refl _) _).alloc (by simp) _
        have a2 := g7.lt
        refine ⟨own_below o a1, HG.out, B.trans (a1.mono B.size), g6.below a1, g7.below a1, (Bx.new _ _ _).alloc _, ?_, by have := HW.out; omega⟩
        have := Bx.new (wa1.alloc (.cells #[tv] 22)) 75 #[.pointer (some ⟨w1.heap.size + 1, 0, none⟩)]
        rwa [World.size_alloc] at this
      have hsz : ((wa1.alloc (.cells #[tv] 22)).alloc (.cells #[.pointer (some ⟨w1.heap.size + 1, 0, none⟩)] 75)).heap.size = wa1.heap.size + 2 := by simp
      have hb5 : wa1.heap.size + 1 ≠ w1.heap.size := by have := B.size; have := g6.lt; omega
      revert J0 hsz
      generalize ((wa1.alloc (.cells #[tv] 22)).alloc (.cells #[.pointer (some ⟨w1.heap.size + 1, 0, none⟩)] 75)) = w3
      intro J0 hsz
      rw [← hsz] at J0
      obtain ⟨s1, hs1⟩ : ∃ s, s = w1.heap.size := ⟨_, rfl⟩
      obtain ⟨s3, hs3⟩ : ∃ s, s = wa1.heap.size := ⟨_, rfl⟩
      rw [← hs1, ← hs3] at J0
      rw [← hs1, ← hs3]
      clear hs1 hs3 o g6 g7 c_g6 f_g6 a_g6 d_g6 e_g6 c_g7 f_g7 a_g7 d_g7 e_g7 B hb5 HG hsz HW
      go_wp2_with fail
      refine wpIn_wide.1 (RF.wpIn_rangeE (m := 3) (gf := 54) (lb := #[.pointer (some ⟨s3, 0, none⟩), .pointer (some ⟨s3 + 1, 0, none⟩)]) rfl (enters_of Try.func54 (by kernel_rfl) rfl)
        (fun k A => ImgJ w A w3.heap.size s1 (s1 + 1) s3 (s3 + 1) 0 (.slice A0 n0 c0) tv (tysP (List.replicate N 0) T k)) (fun k A B h hb => h.below hb) J0 t (encY T) (fun _ => rfl)
        (fun k A B => (errT T = 0 ∧ k = T.length ∧ B = A) ∨ (errT T ≠ 0 ∧ B = A.setCell ⟨s1 + 1, 0, none⟩ (.int .i64 (errT T)))) ?hR ?hcall ?hround ?hdone)
      case hR =>
        rintro k A B _ (⟨_, _, rfl⟩ | ⟨_, rfl⟩)
        · exact KeepsFrom.refl _ _
        · exact RF.keeps_set _ _ _
      case hcall =>
        intro l J' W h1 h2 h3 h4
        refine wordsT1_any 1 l s3 (s3 + 1) (s1 + 1) tv T (by have := HTL.out; omega) J' h2 (fun k A h => ?_) (fun k A h hk => h3 k A h (by rw [HTL.out]; exact hk)) W h4
        have hj := h1 k A h
        exact ⟨HT.out.below hj.bel, hj.ct.cell 0, hj.ce.cell 0, hj.b7.cell 0, hj.b7.free 0⟩
      case hround =>
        intro l k A hl1 hl2 hj hk
        have hkk := Lib.hid hk; have HJ := Lib.hid hj; have HL1 := Lib.hid hl1; have HL2 := Lib.hid hl2
        clear hk hj hl1 hl2
        have hsem := @Oper.semAt_some
        unfold encY
        obtain ⟨a, ha⟩ : ∃ a, a = w0 (T.getD k []) := ⟨_, rfl⟩
        obtain ⟨c, hc⟩ : ∃ c, c = L13.w1 (T.getD k []) := ⟨_, rfl⟩
        rw [← ha, ← hc]
        have HA := Lib.hid ha; have HC := Lib.hid hc
        clear ha hc
        gi_wp2
        have al := (Below.refl A.heap.size A).alloc (Nat.le_refl _) (.cells #[.int .u64 a.toNat, .int .u64 c.toNat] 76)
        have bx := Bx.new A 76 #[.int .u64 a.toNat, .int .u64 c.toNat]
        refine ⟨RF.keeps_below al, fun r => ?_⟩
        have sA : w3.heap.size ≤ A.heap.size := by have := HL1.out; have := HL2.out; omega
        have jx := (HJ.out.below (al.mono sA)).below (RF.put_below (n := w3.heap.size) (l := l) (.loop r) (Nat.le_of_lt HL1.out))
        have gx : Bx ((A.alloc (.cells #[.int .u64 a.toNat, .int .u64 c.toNat] 76)).putObj l (.loop r)) A.heap.size 76 #[.int .u64 a.toNat, .int .u64 c.toNat] := (World.putObj_heap_other (by have := HL2.out; omega)).trans bx
        clear al bx
        revert jx gx
        generalize (A.alloc (.cells #[.int .u64 a.toNat, .int .u64 c.toNat] 76)).putObj l (.loop r) = X
        intro jx gx
        have c6 := jx.b6.cell
        have JX := Lib.hid jx; have GX := Lib.hid gx; have SA := Lib.hid sA
        clear jx gx sA
        gi_wp2_with fail
        have hmix : Try.prog.follows .mixedOrders = true := by kernel_rfl
        have hlen : (tysP (List.replicate N 0) T k).length = N := by rw [tysP_len, List.length_replicate]
        have PT : Calls Try.prog 28 #[.slice A0 n0 c0, .int .i64 (96 + 2 * (k : Int)), .slice (some ⟨A.heap.size, 0, none⟩) 2 2] X.drew fun e w' => (∃ u, e = .returned u) ∧ OwnW w' w.heap.size 64 (.slice A0 n0 c0) (putW (tysP (List.replicate N 0) T k) (96 + 2 * k) [a, c]) ∧ Below w.heap.size X.drew w' ∧ X.drew.grownBy w' (Value.slice A0 n0 c0).ownBlock := by
          have := put_any (.slice A0 n0 c0) (.slice (some ⟨A.heap.size, 0, none⟩) 2 2) (tysP (List.replicate N 0) T k) [a, c] (96 + 2 * k) w.heap.size (by rw [hlen]; have := HN.out; have := hkk.out; simp; omega) X.drew JX.out.own (arr_words94 GX.out) JX.out.bel.size
          rw [show (((96 + 2 * k : Nat)) : Int) = 96 + 2 * (k : Int) by omega] at this
          exact this
        have HPT := Lib.hid PT; clear PT hlen
        gi_region_with_o (refine ⟨trivial, ?_⟩; gi_at_call 28; refine (CallsIn.inRound l (callsIn_wide.2 HPT.out)).mono ?_; rintro e w' ⟨⟨u, rfl⟩, oo, bb, gg⟩)
        all_goals gi_wp2
        all_goals
          have fin := (JX.out.below (Below.refl w3.heap.size X).drew).grown (l' := tysP (List.replicate N 0) T (k + 1)) (by rw [tysP, ← HA.out, ← HC.out]; exact oo) bb gg
          exact ⟨⟨fin.1.size, fin.1.same⟩, fin.2⟩
      case hdone =>
        intro k A B r hj hr hlt hD
        have D0 : ImgD w (B.putObj (w3.heap.size + 1) (.loop r)) w3.heap.size s1 (s1 + 1) s3 (s3 + 1) (errT T) (.slice A0 n0 c0) tv (tysP (List.replicate N 0) T k) := by
          refine ⟨ImgJ.below (A := B) ?_ (RF.put_below _ (by omega)), (World.putObj_heap_other (by omega)).trans hD⟩
          rcases hr with ⟨h0, _, rfl⟩ | ⟨_, rfl⟩
          · rw [h0]; exact hj
          · exact hj.err _
        have HK := Lib.hid (show errT T = 0 → k = T.length from fun h0 => hr.elim (fun h => h.2.1) (fun h => absurd h0 h.1))
        revert D0
        generalize B.putObj (w3.heap.size + 1) (.loop r) = Y
        clear hr hlt hD hj A B
        intro D0
        have HER : Hid (imgErr N T = errT T ∧ imgP N T = if errT T = 0 then imageP N T else []) := Lib.hid ⟨HE.out, by rw [imgP, HE.out]; rfl⟩
        clear HE
        generalize errT T = er at D0 HK HER
        have c7 := D0.1.b7.cell
        have HD := Lib.hid D0; clear D0
        dsimp only
        by_cases h0 : er = 0
        · have hk := HK.out h0
          subst hk
          subst h0
          have h3 : imgErr N T = 0 ∧ imgP N T = imageP N T := ⟨HER.out.1, by rw [HER.out.2, if_pos rfl]⟩
          have HI := Lib.hid h3
          have hok : SupOk N t := ⟨HS.out, by omega, h8'⟩
          obtain ⟨ws, hws⟩ : ∃ ws, ws = wordsOf N t := ⟨_, rfl⟩
          have hwl : ws.length = 8 := by rw [hws]; exact len_words _ _
          have WT := Lib.hid (fun W => (show Calls Try.prog 29 #[.agg #[.int .i64 N, .int .i64 t]] W (RetWB W ws 0) from by
            have := Write6_any N t W; rw [supErr, write, if_pos hok, if_pos hok, ← hws] at this; exact this))
          have hbk : BkOk ⟨0, (N : Int) - 128, 2, 0, false, 0⟩ := by
            have := HS.out; unfold SizeOk at this; exact ⟨⟨show (2 : Int) ≤ (N : Int) - 128 by omega, show ((N : Int) - 128) % 2 = 0 by omega⟩, .inr ⟨rfl, rfl, rfl, show (N : Int) - 128 ≤ 1920 by omega⟩⟩
          obtain ⟨hv, hhv⟩ : ∃ x, x = word ⟨0, (N : Int) - 128, 2, 0, false, 0⟩ := ⟨_, rfl⟩
          have HT2 := Lib.hid (fun W => (show Calls Try.prog 30 #[.agg #[.int .i64 0, .int .i64 ((N : Int) - 128), .int .i64 2, .int .i64 0, .bool false, .int .u64 0]] W (fun e w' => e = .returned (.tuple #[.int .u64 hv.toNat, .int .i64 0]) ∧ Below W.heap.size W w') from
            HWord_any ⟨0, (N : Int) - 128, 2, 0, false, 0⟩ hv 0 hhv (hErr_ok hbk).symm W))
          have hN := HN.out
          have hwr : IntKind.i64.wrap ((N : Int) - 128) = (N : Int) - 128 := IntWalk.i64_in _ (by omega)
          have HWS := Lib.hid hws; have HWL := Lib.hid hwl; have HHV := Lib.hid hhv
          clear h3 hok hws hwl hbk hhv hN HK HER
          go_wp2_with fail
          refine (WT.out _).mono ?_
          rintro e Y2 ⟨s, rfl, ⟨E, os⟩, b⟩
          have D2 := HD.out.below b
          have c7 := D2.1.b7.cell
          have f7 := D2.1.b7.free
          go_upto_region 13 with (fail)
          have hYM : w3.heap.size < Y.heap.size := (Array.getElem?_eq_some_iff.1 HD.out.2).1
          have hle := D2.1.le
          refine wp_gen (fun V => ImgD w V w3.heap.size s1 (s1 + 1) s3 (s3 + 1) 0 (.slice A0 n0 c0) tv (tysP (List.replicate N 0) T T.length) ∧ OwnW V Y.heap.size E s ws) ⟨D2.err 0, own_far94 os (grownBy_setCell' _ _ _) (fun j hj => by cases hj; omega)⟩ ?_
          rintro Y3 ⟨D3, os3⟩
          have HLE := Lib.hid (And.intro hYM hle)
          clear D2 os c7 f7 b WT HD hYM hle
          have c7 := D3.1.b7.cell
          have H3 := Lib.hid (And.intro D3 os3); clear D3 os3
          go_wp2_with fail
          refine (HT2.out _).mono ?_
          rintro e Y4 ⟨rfl, b⟩
          have D4 := H3.out.1.below b
          have os4 := own_below H3.out.2 b
          clear c7 b H3
          have c7 := D4.1.b7.cell
          have f7 := D4.1.b7.free
          go_upto_region 16 with (fail)
          refine wp_gen (fun V => ImgD w V w3.heap.size s1 (s1 + 1) s3 (s3 + 1) 0 (.slice A0 n0 c0) tv (tysP (List.replicate N 0) T T.length) ∧ OwnW V Y.heap.size E s ws) ⟨D4.err 0, own_far94 os4 (grownBy_setCell' _ _ _) (fun j hj => by cases hj; have := HLE.out; omega)⟩ ?_
          rintro Y5 ⟨D5, os5⟩
          clear D4 os4 c7 f7 HT2
          have c7 := D5.1.b7.cell
          have c6 := D5.1.b6.cell
          have H5 := Lib.hid (And.intro D5 os5); clear D5 os5
          go_wp2_with fail
          have hl0 : (tysP (List.replicate N 0) T T.length).length = N := by rw [tysP_len, List.length_replicate]
          have HL0 := Lib.hid hl0; clear hl0
          refine (putD_any (m := ws) (a := 0) H5.out.1 rfl (by rw [HWL.out, HL0.out]; have := HN0.out; omega) (OwnW.rd H5.out.2)).mono ?_
          rintro e Y6 ⟨⟨u, rfl⟩, D6, g⟩
          have os6 := own_far94 H5.out.2 g (fun j hj => by have := D6.1.blk j hj; have := HLE.out; omega)
          clear c6 c7 H5 g
          have c6 := D6.1.b6.cell
          have H6 := Lib.hid (And.intro D6 os6); clear D6 os6
          go_wp2_with fail
          refine (putD_any (m := ws) (a := 8) H6.out.1 rfl (by rw [putW_len, HWL.out, HL0.out]; have := HN0.out; omega) (OwnW.rd H6.out.2)).mono ?_
          rintro e Y7 ⟨⟨u, rfl⟩, D7, -⟩
          clear c6 H6
          have c6 := D7.1.b6.cell
          have H7 := Lib.hid D7; clear D7
          go_wp2_with fail
          have D8 := H7.out.below ((Below.refl _ _).alloc (Nat.le_refl _) (.cells #[.int .u64 hv.toNat] 64))
          refine (putD_any (m := [hv]) (a := 128) D8 rfl (by rw [putW_len, putW_len, HL0.out]; have := HN0.out; simp; omega) (lit_words [hv] rfl rfl (by simp))).mono ?_
          rintro e Y9 ⟨⟨u, rfl⟩, D9, -⟩
          clear c6 H7 D8
          have c6 := D9.1.b6.cell
          have H9 := Lib.hid D9; clear D9
          go_wp2_with fail
          have D9 := H9.out
          rw [HI.out.1, HI.out.2]
          refine ⟨by simp, .inl ⟨_, _, rfl, run_takeDeferred D9.2, ?_⟩⟩
          refine ⟨_, results_tmp2 rfl _ _ _, _, rfl, ?_, D9.shut.bel⟩
          have hfin : putW (putW (putW (tysP (List.replicate N 0) T T.length) 0 ws) 8 ws) 128 [hv] = imageP N T := by rw [imageP, HWS.out, HTL.out, HHV.out]
          rw [← hfin]; exact D9.shut.own
        · go_wp2_with fail
          go_big_quiet (fail)
          go_wp2
          have D1 := HD.out.below (below_drewN (Below.refl _ Y) nq)
          rw [HER.out.1, HER.out.2, if_neg h0]
          refine ⟨by simp, .inl ⟨_, _, rfl, run_takeDeferred D1.2, ?_⟩⟩
          exact ⟨_, results_tmp2 rfl _ _ _, _, rfl, OwnW.nil _ _ _, D1.shut.bel⟩
end Go.Proofs.Ytodbbacmdjcheaa
namespace Go.Proofs.Ytodbbacmdjcheaa
open Go Go.RowKit
section
variable {P : Program} {ops : Array Oper} {md : Region.Mode} {C : Array Bool → World → Prop}
def uponF (P : Program) (Post : World → Prop) (v : Value) : Result Next → Prop
  | .ok (.value u) w' => u = v ∧ Post w'
  | .ok .skip w' => v = undef ∧ Post w'
  | .ok (.enter f args) w' => Calls P f args w' (fun e w'' => e = .returned v ∧ Post w'')
  | _ => False
def YieldsF (P : Program) (md : Region.Mode) (ops : Array Oper) (C : Array Bool → World → Prop) (i : Nat) (o : Oper) (v : Value) (a : Act) : Prop :=
  (Region.wanted o (yielded ops a.tmps) = true ∧ ∀ listed w, i ∈ Region.ready md ops listed → C listed w → uponF P (C (listed.setIfInBounds i true)) v ((execOp a.eval o).run P w)) ∨
  (Region.wanted o (yielded ops a.tmps) = false ∧ v = undef ∧ ∀ listed w, i ∈ Region.ready md ops listed → C listed w → C (listed.setIfInBounds i true) w)
def qOpF (P : Program) (md : Region.Mode) (ops : Array Oper) (C : Array Bool → World → Prop) (i : Nat) (K : Act → Prop) (a : Act) : Prop :=
  match ops[i]? with
  | none => False
  | some o => ∃ v, YieldsF P md ops C i o v a ∧ K (a.put o.dst v)
theorem qOpF_mono {i : Nat} {a : Act} {K K' : Act → Prop} (h : ∀ a, K a → K' a) (hh : qOpF P md ops C i K a) : qOpF P md ops C i K' a := by
  unfold qOpF at *
  split
  · rename_i ho; simp only [ho] at hh
  · rename_i o ho
    simp only [ho] at hh
    obtain ⟨v, h1, h2⟩ := hh
    exact ⟨v, h1, h _ h2⟩
def wpAnyF (P : Program) (md : Region.Mode) (ops : Array Oper) (C : Array Bool → World → Prop) (Q : Array Bool → Act → Prop) : Nat → Array Bool → Act → Prop
  | 0, listed, a => Region.ready md ops listed = [] ∧ Q listed a
  | fuel + 1, listed, a =>
    (Region.ready md ops listed = [] → Q listed a) ∧
    ∀ i ∈ Region.ready md ops listed, qOpF P md ops C i (wpAnyF P md ops C Q fuel (listed.setIfInBounds i true)) a
theorem wpOp_of_qOpF {i : Nat} {a : Act} {listed : Array Bool} {K : Act → Prop} {K' : Act → World → Prop} {Q' : Exit → Act → World → Prop} {w : World} (hl : i ∈ Region.ready md ops listed) (hC : C listed w)
    (h : ∀ a w', C (listed.setIfInBounds i true) w' → K a → K' a w') (hh : qOpF P md ops C i K a) : wpOp P ops Q' i K' a w := by
  unfold qOpF at hh
  unfold wpOp
  split
  · rename_i ho; simp only [ho] at hh
  · rename_i o ho
    simp only [ho] at hh
    obtain ⟨v, hy, h2⟩ := hh
    rcases hy with ⟨hw, hv⟩ | ⟨hw, rfl, hv⟩
    · rw [if_pos hw]
      left
      have h3 := hv listed w hl hC
      unfold Oper.wp
      generalize (execOp a.eval o).run P w = r at *
      cases r with
      | ok n w' =>
        cases n <;> simp only [uponF] at h3 <;> simp only [Oper.upon]
        case value u => obtain ⟨e1, e2⟩ := h3; rw [e1]; exact h _ _ e2 h2
        case skip => obtain ⟨e1, e2⟩ := h3; rw [← e1]; exact h _ _ e2 h2
        case enter f args => exact h3.mono fun e w'' ⟨he, hw''⟩ => by subst he; exact h _ _ hw'' h2
      | halt x w' => simp only [uponF] at h3
    · rw [if_neg (by rw [hw]; exact Bool.false_ne_true)]
      exact h _ _ (hv listed w hl hC) h2
theorem wpAny_of_F {Q : Array Bool → Act → Prop} {Q' : Exit → Act → World → Prop} (hQ : ∀ listed a w, C listed w → Q listed a → Q' .normal a w) : ∀ (fuel : Nat) (listed : Array Bool) (a : Act) (w : World), C listed w →
    wpAnyF P md ops C Q fuel listed a → wpAny P md ops Q' fuel listed a w
  | 0, _, _, _, hw, h => ⟨h.1, hQ _ _ _ hw h.2⟩
  | fuel + 1, listed, _, _, hw, h => ⟨fun h0 => hQ _ _ _ hw (h.1 h0), fun i hi => wpOp_of_qOpF hi hw (fun a' w' hw' => wpAny_of_F hQ fuel _ a' w' hw') (h.2 i hi)⟩
theorem YieldsF.of_same {i : Nat} {o : Oper} {v : Value} {a a' : Act} (hy : YieldsF P md ops C i o v a) (he : execOp a'.eval o = execOp a.eval o)
    (hw : Region.wanted o (yielded ops a'.tmps) = Region.wanted o (yielded ops a.tmps)) : YieldsF P md ops C i o v a' := by
  unfold YieldsF at *
  rw [he, hw]
  exact hy
theorem qOpF_put {i j : Nat} {oi oj : Oper} {v : Value} (hj : ops[j]? = some oj) (hap : oi.apart ops oj = true)
    (hsi : ∀ cs b, oi.op ≠ .select cs b) (hsj : ∀ cs b, oj.op ≠ .select cs b) {K : Act → Prop} {a : Act}
    (hy : YieldsF P md ops C i oi v a) (h : qOpF P md ops C j K (a.put oi.dst v)) :
    qOpF P md ops C j (fun a' => YieldsF P md ops C i oi v a' ∧ K (a'.put oi.dst v)) a := by
  obtain ⟨h1, h2, h3⟩ := Oper.apart_spec hap
  unfold qOpF at *
  simp only [hj] at *
  obtain ⟨u, hu, hn⟩ := h
  refine ⟨u, hu.of_same ?_ ?_, hy.of_same ?_ ?_, ?_⟩
  · exact (execOp_put oj hsj a oi.dst v h1).symm
  · exact (wanted_put oj a oi.dst v h1).symm
  · exact execOp_put oi hsi a oj.dst u h3
  · exact wanted_put oi a oj.dst u h3
  · rw [← Act.put_comm a v u h2]; exact hn
theorem wpAnyF_first {Q : Array Bool → Act → Prop} {i : Nat} {oi : Oper} {v : Value} (hi : ops[i]? = some oi) (hsel : ∀ (j : Nat) (o : Oper) cs b, ops[j]? = some o → o.op ≠ .select cs b) :
    ∀ (fuel : Nat) (listed : Array Bool) (a : Act),
      (∀ j oj, ops[j]? = some oj → j ≠ i → listed.getD j true = false → (∀ e ∈ oj.after, Region.binds md e = true → e.on ≠ i) → oi.apart ops oj = true) →
      i ∈ Region.ready md ops listed → YieldsF P md ops C i oi v a →
      wpAnyF P md ops C Q fuel (listed.setIfInBounds i true) (a.put oi.dst v) → wpAnyF P md ops C Q (fuel + 1) listed a := by
  intro fuel
  induction fuel with
  | zero =>
    intro listed a _ hr hy H
    refine ⟨fun h => (by rw [h] at hr; cases hr), fun j hj => ?_⟩
    by_cases hji : j = i
    · subst hji
      unfold qOpF; simp only [hi]
      exact ⟨v, hy, H⟩
    · have := ready_mono hj hji
      rw [H.1] at this
      cases this
  | succ fuel ih =>
    intro listed a hfree hr hy H
    refine ⟨fun h => (by rw [h] at hr; cases hr), fun j hj => ?_⟩
    by_cases hji : j = i
    · subst hji
      unfold qOpF; simp only [hi]
      exact ⟨v, hy, H⟩
    · have h1 := H.2 j (ready_mono hj hji)
      obtain ⟨hjun, oj, hoj, hall⟩ := mem_ready.1 hj
      have hnot : ∀ e ∈ oj.after, Region.binds md e = true → e.on ≠ i := fun e he hb heq => by
        have h1 := hall e he hb
        have h0 := (mem_ready.1 hr).1
        rw [heq] at h1
        rcases Nat.lt_or_ge i listed.size with h' | h'
        · simp [h'] at h0 h1; rw [h0] at h1; cases h1
        · simp [Array.getElem?_eq_none h'] at h1
      have h2 := qOpF_put hoj (hfree j oj hoj hji hjun hnot) (fun cs b => hsel i oi cs b hi) (fun cs b => hsel j oj cs b hoj) hy h1
      have hfree' : ∀ k ok, ops[k]? = some ok → k ≠ i → (listed.setIfInBounds j true).getD k true = false →
          (∀ e ∈ ok.after, Region.binds md e = true → e.on ≠ i) → oi.apart ops ok = true := fun k ok hk hki hun hno => by
        refine hfree k ok hk hki ?_ hno
        by_cases hjk : j = k
        · subst hjk; exact hjun
        · rw [getD_set_ne true hjk] at hun; exact hun
      refine qOpF_mono (fun a' h3 => ih (listed.setIfInBounds j true) a' hfree' (ready_mono hr (Ne.symm hji)) h3.1 ?_) h2
      rw [Array.setIfInBounds_comm _ _ hji]
      exact h3.2
/-- the walk in the order of the text, number k first -/
def wpF (P : Program) (md : Region.Mode) (ops : Array Oper) (C : Array Bool → World → Prop) (Q : Act → Prop) : List Oper → Nat → Act → Prop
  | [], _, a => Q a
  | o :: rest, k, a => ∃ v, YieldsF P md ops C k o v a ∧ wpF P md ops C Q rest (k + 1) (a.put o.dst v)
def setAll : Nat → Nat → Array Bool → Array Bool
  | 0, _, l => l
  | n + 1, k, l => setAll n (k + 1) (l.setIfInBounds k true)
theorem wpAnyF_lex {Q : Array Bool → Act → Prop} (hs : Region.noSelect ops = true) : ∀ (l : List Oper) (k : Nat) (listed : Array Bool) (a : Act), (∀ j, l[j]? = ops[k + j]?) →
    Region.lexFrom md ops l.length k listed = true → wpF P md ops C (Q (setAll l.length k listed)) l k a → wpAnyF P md ops C Q l.length listed a
  | [], _, _, _, _, hB, h => ⟨by simpa [Region.lexFrom] using hB, h⟩
  | o :: l, k, listed, a, hl, hB, h => by
    have h0 : ops[k]? = some o := by simpa using (hl 0).symm
    simp only [List.length_cons, Region.lexFrom, Bool.and_eq_true] at hB
    obtain ⟨⟨hr, hf⟩, hB'⟩ := hB
    obtain ⟨v, hy, hK⟩ := h
    exact wpAnyF_first h0 (Region.noSelect_spec hs) l.length listed a (Region.free_spec h0 hf) (by simpa using hr) hy
      (wpAnyF_lex hs l (k + 1) _ _ (fun j => by have := hl (j + 1); simpa [Nat.add_assoc, Nat.add_comm 1 j] using this) hB' hK)
theorem wp_region_F {id : Nat} {Q : Exit → Act → World → Prop} {a : Act} {w : World} {l : List Oper} (C : Array Bool → World → Prop) (hm : P.follows .mixedOrders = true) (hB : Region.lexB .any l.toArray = true)
    (hC : C (Array.replicate l.length false) { w with drawn := w.drawn + 1 })
    (h : wpF P .any l.toArray C (fun a' => ∀ w', C (setAll l.length 0 (Array.replicate l.length false)) w' → Q .normal a' w') l 0 a) : (Code.region id l.toArray true).wp P Q a w := by
  simp only [Region.lexB, Bool.and_eq_true] at hB
  refine wp_region_any hm (wpAny_of_F (C := C) (Q := fun listed a' => ∀ w', C listed w' → Q .normal a' w') (fun _ _ w' hw' h => h w' hw') _ _ _ _ (by simpa using hC) ?_)
  have := wpAnyF_lex (C := C) (md := .any) (Q := fun listed a' => ∀ w', C listed w' → Q .normal a' w') hB.1 l 0 (Array.replicate l.length false) a (by simp) (by simpa using hB.2) h
  simpa using this
end
/-! two flagged operations, numbers j1, j2 (a number that no operation bears: none) -/
/-- the operations that yield a value without entering a function -/
def isV : Op → Bool
  | .move _ | .assign _ | .pick .. | .build .. | .load .. | .binOp .. | .unOp .. | .convert .. | .slice .. | .fieldAddr .. | .field .. | .indexAddr .. | .index .. | .extract .. | .sliceToArrayPointer .. => true
  | _ => false
theorem run_v {P : Program} {s : Sem Value} {w w' : World} {n : Next} (h : (do pure (Next.value (← s)) : Sem Next).run P w = .ok n w') : ∃ u, n = .value u := by
  rw [Sem.run_bind] at h
  cases hs : s.run P w with
  | ok u w1 => rw [hs] at h; simp [Result.andThen] at h; exact ⟨u, h.1.symm⟩
  | halt x w1 => rw [hs] at h; simp [Result.andThen] at h
theorem isV_value {P : Program} {o : Oper} {ev : Operand → Value} {w w' : World} {n : Next} (hV : isV o.op = true) (h : (execOp ev o).run P w = .ok n w') : ∃ u, n = .value u := by
  unfold execOp at h
  cases ho : o.op <;> rw [ho] at h hV <;> simp only [isV, Bool.false_eq_true] at hV <;> dsimp only at h
  case move x => simp at h; exact ⟨_, h.1.symm⟩
  case assign x => simp at h; exact ⟨_, h.1.symm⟩
  case pick c x y =>
    rw [Sem.run_bind] at h
    cases hs : (asBool (ev c)).run P w with
    | ok u w1 => rw [hs] at h; simp [Result.andThen] at h; exact ⟨_, h.1.symm⟩
    | halt x w1 => rw [hs] at h; simp [Result.andThen] at h
  all_goals exact run_v h
structure FX (F : Bool → Bool → World → Prop) where
  W : World
  h : ∃ b1 b2, F b1 b2 W
def CF (F : Bool → Bool → World → Prop) (j1 j2 : Nat) : Array Bool → World → Prop := fun listed W => F (listed.getD j1 false) (listed.getD j2 false) W
section
variable {P : Program} {ops : Array Oper} {rest : List Oper} {o : Oper} {a : Act} {Q : Act → Prop} {F : Bool → Bool → World → Prop} {j1 j2 k : Nat} {md : Region.Mode}
/-- an operation that only reads -/
theorem wpF_read (hV : isV o.op = true) (hk : (k != j1 && k != j2) = true) (h : wpQuiet P ops (fun W => ∃ x : FX F, W = x.W) (fun a' => wpF P md ops (CF F j1 j2) Q rest (k + 1) a') [o] a) : wpF P md ops (CF F j1 j2) Q (o :: rest) k a := by
  simp only [Bool.and_eq_true, bne_iff_ne] at hk
  have hset : ∀ listed W, CF F j1 j2 listed W → CF F j1 j2 (listed.setIfInBounds k true) W := fun listed W hW => by
    unfold CF at *
    rw [getD_set_ne false hk.1, getD_set_ne false hk.2]; exact hW
  unfold wpQuiet at h
  split at h
  · rename_i hw
    obtain ⟨v, h1, h2⟩ := h
    refine ⟨v, .inl ⟨hw, fun listed W hl hW => ?_⟩, h2⟩
    have h3 := h1 W ⟨⟨W, _, _, hW⟩, rfl⟩
    unfold Oper.quietAt at h3
    cases hr : (execOp a.eval o).run P W with
    | ok n w' =>
      obtain ⟨u, rfl⟩ := isV_value hV hr
      rw [hr] at h3
      simp only [Oper.quietUpon] at h3
      simp only [uponF]
      obtain ⟨e1, e2⟩ := h3
      subst e1
      exact ⟨e2, hset _ _ hW⟩
    | halt x w' => rw [hr] at h3; simp only [Oper.quietUpon] at h3
  · rename_i hw
    exact ⟨undef, .inr ⟨by simpa using hw, rfl, fun listed W hl hW => hset _ _ hW⟩, h⟩
structure FX1 (F : Bool → Bool → World → Prop) where
  W : World
  h : ∃ b2, F true b2 W
theorem getD_on {listed : Array Bool} {i : Nat} (h : listed.getD i true = false) : listed.getD i false = false ∧ (listed.setIfInBounds i true).getD i false = true := by
  rcases Nat.lt_or_ge i listed.size with h' | h'
  · simp [h'] at h ⊢; exact h
  · simp [Array.getElem?_eq_none h'] at h
/-- a flagged store -/
theorem wpF_store1 (ty : TypeId) (x y : Operand) (ho : o.op = .store ty x y) (hw : Region.wanted o (yielded ops a.tmps) = true) (hj : j1 ≠ j2) {p u : Value} (hx : a.eval x = p) (hy : a.eval y = u)
    (hs : ∀ b2 W, F false b2 W → ∃ W', (Instr.storeAt ty p u).run P W = .ok () W' ∧ F true b2 W') (h : wpF P md ops (CF F j1 j2) Q rest (j1 + 1) (a.put o.dst undef)) : wpF P md ops (CF F j1 j2) Q (o :: rest) j1 a := by
  refine ⟨undef, .inl ⟨hw, fun listed W hl hW => ?_⟩, h⟩
  obtain ⟨g1, g2⟩ := getD_on (mem_ready.1 hl).1
  unfold CF at hW ⊢
  rw [g1] at hW
  obtain ⟨W', h1, h2⟩ := hs _ W hW
  unfold execOp
  simp only [ho, hx, hy, Sem.run_bind, h1, Result.andThen_ok, Sem.run_pure, uponF, true_and]
  rw [g2, getD_set_ne false hj]; exact h2
theorem wpF_store2 (ty : TypeId) (x y : Operand) (ho : o.op = .store ty x y) (hw : Region.wanted o (yielded ops a.tmps) = true) (hj : j2 ≠ j1) {p u : Value} (hx : a.eval x = p) (hy : a.eval y = u)
    (hs : ∀ b1 W, F b1 false W → ∃ W', (Instr.storeAt ty p u).run P W = .ok () W' ∧ F b1 true W') (h : wpF P md ops (CF F j1 j2) Q rest (j2 + 1) (a.put o.dst undef)) : wpF P md ops (CF F j1 j2) Q (o :: rest) j2 a := by
  refine ⟨undef, .inl ⟨hw, fun listed W hl hW => ?_⟩, h⟩
  obtain ⟨g1, g2⟩ := getD_on (mem_ready.1 hl).1
  unfold CF at hW ⊢
  rw [g1] at hW
  obtain ⟨W', h1, h2⟩ := hs _ W hW
  unfold execOp
  simp only [ho, hx, hy, Sem.run_bind, h1, Result.andThen_ok, Sem.run_pure, uponF, true_and]
  rw [g2, getD_set_ne false hj]; exact h2
end
/-- the region: F false false where it begins; behind it F with the flags of the numbers that it has -/
theorem wp_region_flag {P : Program} {id : Nat} {Q : Exit → Act → World → Prop} {a : Act} {w : World} {l : List Oper} (F : Bool → Bool → World → Prop) (j1 j2 : Nat) (hm : P.follows .mixedOrders = true) (hB : Region.lexB .any l.toArray = true)
    (f1 f2 : Bool) (hf : (setAll l.length 0 (Array.replicate l.length false)).getD j1 false = f1 ∧ (setAll l.length 0 (Array.replicate l.length false)).getD j2 false = f2)
    (hC : F false false w.drew)
    (h : wpF P .any l.toArray (CF F j1 j2) (fun a' => ∀ w', F f1 f2 w' → Q .normal a' w') l 0 a) : (Code.region id l.toArray true).wp P Q a w := by
  refine wp_region_F (CF F j1 j2) hm hB ?_ ?_
  · unfold CF
    have e : ∀ j, (Array.replicate l.length false).getD j false = false := fun j => getD_replicate_false _ _
    rw [e, e]; exact hC
  · unfold CF
    rw [hf.1, hf.2]; exact h
/-- the flagged operation is a call that makes just one block -/
def FNew (w0 : World) (t : TypeId) (cs : Array Value) : Bool → Bool → World → Prop := fun b1 _ W => Below w0.heap.size w0 W ∧ (b1 = false → W.heap.size = w0.heap.size) ∧ (b1 = true → Bx W w0.heap.size t cs)
theorem FNew.start (w0 : World) (t : TypeId) (cs : Array Value) : FNew w0 t cs false false w0.drew := ⟨(Below.refl _ _).drew, fun _ => rfl, (fun h => by cases h)⟩
theorem FNew.below {w0 : World} {t : TypeId} {cs : Array Value} (x : FX (FNew w0 t cs)) : Below w0.heap.size w0 x.W := by obtain ⟨W, b1, b2, h⟩ := x; exact h.1
instance (w0 : World) (t : TypeId) (cs : Array Value) : Nonempty (FX (FNew w0 t cs)) := ⟨⟨w0.drew, false, false, FNew.start w0 t cs⟩⟩
instance (w0 : World) (t : TypeId) (cs : Array Value) : Nonempty (FX1 (FNew w0 t cs)) := ⟨⟨w0.alloc (.cells cs t), false, (Below.refl _ _).alloc (Nat.le_refl _) _, (fun h => by cases h), fun _ => Bx.new _ _ _⟩⟩
theorem FNew.call {P : Program} {f : FuncId} {av : Array Value} {w0 : World} {t : TypeId} {cs : Array Value} {n c : Nat}
    (h : ∀ W, Calls P f av W (fun e w' => e = .returned (.slice (some ⟨W.heap.size, 0, none⟩) n c) ∧ Bx w' W.heap.size t cs ∧ Below W.heap.size W w')) (b2 : Bool) (W : World) (hW : FNew w0 t cs false b2 W) :
    Calls P f av W (fun e W' => e = .returned (.slice (some ⟨w0.heap.size, 0, none⟩) n c) ∧ FNew w0 t cs true b2 W') := by
  have hz := hW.2.1 rfl
  refine (h W).mono fun e w' ⟨h1, h2, h3⟩ => ?_
  rw [hz] at h1 h2
  exact ⟨h1, hW.1.trans (h3.mono (by rw [hz]; exact Nat.le_refl _)), (fun h => by cases h), fun _ => h2⟩
end Go.Proofs.Ytodbbacmdjcheaa
namespace Go.Proofs.Ytodbbacmdjcheaa
open Go Go.RowKit
def CN (F : (Nat → Bool) → World → Prop) : Array Bool → World → Prop := fun listed W => F (fun j => listed.getD j false) W
def Dep (F : (Nat → Bool) → World → Prop) (js : List Nat) : Prop := ∀ f g W, (∀ j ∈ js, f j = g j) → F f W → F g W
structure FXN (F : (Nat → Bool) → World → Prop) where
  W : World
  h : ∃ f, F f W
section
variable {P : Program} {ops : Array Oper} {rest : List Oper} {o : Oper} {a : Act} {Q : Act → Prop} {F : (Nat → Bool) → World → Prop} {js : List Nat} {k : Nat} {md : Region.Mode}
theorem CN.skip (hD : Dep F js) (hk : k ∉ js) {listed : Array Bool} {W : World} (hW : CN F listed W) : CN F (listed.setIfInBounds k true) W := by
  refine hD _ _ _ (fun j hj => ?_) hW
  have hne : k ≠ j := fun e => hk (e ▸ hj)
  rw [getD_set_ne false hne]
end
end Go.Proofs.Ytodbbacmdjcheaa
namespace Go.Proofs.Ytodbbacmdjcheaa
open Go Go.RowKit
/-- a block, and the store number k that makes 'new' of 'old' -/
structure Bk where
  g : Nat
  t : TypeId
  k : Nat
  old : Array Value
  new : Array Value
def FBx (w0 : World) (B : Nat) (L : List Bk) : (Nat → Bool) → World → Prop := fun f W => Below B w0 W ∧ ∀ p ∈ L, Bx W p.g p.t (if f p.k = true then p.new else p.old)
section
variable {w0 : World} {B : Nat} {L : List Bk} {js : List Nat}
theorem FBx.start {W : World} (h1 : Below B w0 W) (h2 : ∀ p ∈ L, Bx W p.g p.t p.old) : FBx w0 B L (fun _ => false) W.drew := ⟨h1.drew, fun p hp => by rw [if_neg (by simp)]; exact h2 p hp⟩
theorem FBx.done {W : World} (h : FBx w0 B L (fun _ => true) W) : Below B w0 W ∧ ∀ p ∈ L, Bx W p.g p.t p.new := ⟨h.1, fun p hp => by have := h.2 p hp; rwa [if_pos rfl] at this⟩
theorem FBx.cell (p : Bk) (hp : p ∈ L) (he : p.old = p.new) (x : FXN (FBx w0 B L)) (i : Nat) : x.W.cell? ⟨p.g, i, none⟩ = p.old[i]? := by
  obtain ⟨W, f, h⟩ := x
  have := h.2 p hp
  rw [← he] at this
  split at this <;> exact this.cell i
theorem FBx.base (x : FXN (FBx w0 B L)) : Below B w0 x.W := by obtain ⟨W, f, h⟩ := x; exact h.1
variable {P : Program} {k : Nat}
end
section
variable {P : Program} {ops : Array Oper} {rest : List Oper} {o : Oper} {a : Act} {Q : Act → Prop} {F : (Nat → Bool) → World → Prop} {js : List Nat} {k : Nat} {md : Region.Mode}
end
end Go.Proofs.Ytodbbacmdjcheaa
namespace Go.Proofs.Ytodbbacmdjcheaa
open Go Go.RowKit
section
variable {P : Program} {ops : Array Oper} {rest : List Oper} {o : Oper} {a : Act} {Q : Act → Prop} {F : (Nat → Bool) → World → Prop} {js : List Nat} {k : Nat} {md : Region.Mode}
theorem run_append_rd {w : World} {t ty e B sz by_ : Nat} {v lv z : Value} {n m : Nat} {xs ys : List Value} (ht : P.underlying t = some (.slice e))
    (hi : (P.info? e).map (fun i => (i.zero, i.size, i.bytes)) = some (some z, sz, by_)) (hzs : z.cells.size = sz) (hsz : 0 < sz)
    (hown : w.ownsRow B e sz v n xs) (hrd : Rd w sz lv m ys) (h1 : ∀ u ∈ ys, u.oneCell' = true) (h63 : n + m ≤ 9223372036854775807) (hbytes : (n + m) * by_ ≤ 140737488355328) (hB : B ≤ w.heap.size) :
    ∃ v' w', (Builtin.append_ #[t, t] ty #[v, lv]).run P w = .ok v' w' ∧ w'.ownsRow B e sz v' (n + m) (xs ++ ys) ∧ w.grownBy w' v.ownBlock := by
  obtain ⟨i, hi1, hi2, hi3, hi4⟩ := info3 hi
  obtain ⟨A, c, rfl, s1, s2, s3, s4, s5⟩ := hrd
  rcases A with _ | ad
  · have hc := s4 rfl
    have hm : m = 0 := by omega
    subst hc; subst hm
    have hy : ys = [] := List.eq_nil_of_length_eq_zero (by simpa using s3)
    subst hy
    exact ⟨v, w, run_append_owned_none (P := P) w B t ty e i sz ht hi1 v n xs hown, by simpa using hown, World.grownBy.refl w _⟩
  · obtain ⟨b, q, sp⟩ := ad
    have hcell : ∀ j u, ys[j]? = some u → w.cell? ((⟨b, q, sp⟩ : Addr).add j) = some u := by
      intro j u hu
      have hm : 0 < m := by
        rcases Nat.eq_zero_or_pos m with h0 | h0
        · subst h0
          have : ys = [] := List.eq_nil_of_length_eq_zero (by simpa using s3)
          subst this; simp at hu
        · exact h0
      obtain ⟨p1, p2, p3⟩ := s5 hm _ rfl
      simp at p1; subst p1
      rw [show ((⟨b, q, none⟩ : Addr).add j) = ⟨b, q + j, none⟩ by unfold Addr.add; split <;> simp_all]
      exact p3 j u hu
    obtain ⟨v', w', hrun, r1, r2, _⟩ := run_append_own (P := P) w B t ty e i z sz by_ ht hi1 hi2 hi3 hi4 hzs hsz v n xs hown ⟨b, q, sp⟩ m c ys s3 hcell h1 (by unfold maxLen; omega) hbytes hB
    exact ⟨v', w', hrun, r1, r2⟩
end
/-- one of five worlds, by which of four operations are done, one behind the other -/
def FCh (k1 k2 k3 k4 : Nat) (W0 W1 W2 W3 W4 : World) : (Nat → Bool) → World → Prop := fun f W =>
  (f k2 = true → f k1 = true) ∧ (f k3 = true → f k2 = true) ∧ (f k4 = true → f k3 = true) ∧ W = (if f k4 = true then W4 else if f k3 = true then W3 else if f k2 = true then W2 else if f k1 = true then W1 else W0)
section
variable {k1 k2 k3 k4 : Nat} {W0 W1 W2 W3 W4 : World}
theorem FCh.start : FCh k1 k2 k3 k4 W0 W1 W2 W3 W4 (fun _ => false) W0 := ⟨by simp, by simp, by simp, by simp⟩
theorem FCh.done {W : World} (h : FCh k1 k2 k3 k4 W0 W1 W2 W3 W4 (fun _ => true) W) : W = W4 := by have := h.2.2.2; simpa using this
theorem no_of {b c : Bool} (h : b = true → c = true) (hc : c = false) : b = false := by cases b; rfl; rw [h rfl] at hc; cases hc
theorem FCh.s1 (hk : k1 ≠ k2 ∧ k1 ≠ k3 ∧ k1 ≠ k4) {f : Nat → Bool} {W : World} (h : FCh k1 k2 k3 k4 W0 W1 W2 W3 W4 f W) (h0 : f k1 = false) : W = W0 ∧ FCh k1 k2 k3 k4 W0 W1 W2 W3 W4 (fun i => i == k1 || f i) W1 := by
  obtain ⟨a1, a2, a3, a4⟩ := h
  have b2 := no_of a1 h0; have b3 := no_of a2 b2; have b4 := no_of a3 b3
  refine ⟨by rw [a4]; simp [h0, b2, b3, b4], by simp, ?_, ?_, ?_⟩
  · simp only [b3, Bool.or_false]; intro h; rw [beq_iff_eq] at h; exact absurd h.symm hk.2.1
  · simp only [b4, Bool.or_false]; intro h; rw [beq_iff_eq] at h; exact absurd h.symm hk.2.2
  · have e2 : (k2 == k1) = false := by rw [beq_eq_false_iff_ne]; exact hk.1.symm
    have e3 : (k3 == k1) = false := by rw [beq_eq_false_iff_ne]; exact hk.2.1.symm
    have e4 : (k4 == k1) = false := by rw [beq_eq_false_iff_ne]; exact hk.2.2.symm
    simp [b2, b3, b4, e2, e3, e4]
theorem FCh.s2 (hk : k2 ≠ k1 ∧ k2 ≠ k3 ∧ k2 ≠ k4) {f : Nat → Bool} {W : World} (h : FCh k1 k2 k3 k4 W0 W1 W2 W3 W4 f W) (h0 : f k2 = false) (h1 : f k1 = true) : W = W1 ∧ FCh k1 k2 k3 k4 W0 W1 W2 W3 W4 (fun i => i == k2 || f i) W2 := by
  obtain ⟨a1, a2, a3, a4⟩ := h
  have b3 := no_of a2 h0; have b4 := no_of a3 b3
  have e1 : (k1 == k2) = false := by rw [beq_eq_false_iff_ne]; exact hk.1.symm
  have e3 : (k3 == k2) = false := by rw [beq_eq_false_iff_ne]; exact hk.2.1.symm
  have e4 : (k4 == k2) = false := by rw [beq_eq_false_iff_ne]; exact hk.2.2.symm
  exact ⟨by rw [a4]; simp [h0, h1, b3, b4], by simp [h1], by simp, by simp [b4, e4], by simp [b3, b4, e3, e4]⟩
theorem FCh.s3 (hk : k3 ≠ k1 ∧ k3 ≠ k2 ∧ k3 ≠ k4) {f : Nat → Bool} {W : World} (h : FCh k1 k2 k3 k4 W0 W1 W2 W3 W4 f W) (h0 : f k3 = false) (h1 : f k2 = true) : W = W2 ∧ FCh k1 k2 k3 k4 W0 W1 W2 W3 W4 (fun i => i == k3 || f i) W3 := by
  obtain ⟨a1, a2, a3, a4⟩ := h
  have b4 := no_of a3 h0
  have e4 : (k4 == k3) = false := by rw [beq_eq_false_iff_ne]; exact hk.2.2.symm
  exact ⟨by rw [a4]; simp [h0, h1, b4], by simp [a1 h1], by simp [h1], by simp, by simp [b4, e4]⟩
theorem FCh.s4 (hk : k4 ≠ k1 ∧ k4 ≠ k2 ∧ k4 ≠ k3) {f : Nat → Bool} {W : World} (h : FCh k1 k2 k3 k4 W0 W1 W2 W3 W4 f W) (h0 : f k4 = false) (h1 : f k3 = true) : W = W3 ∧ FCh k1 k2 k3 k4 W0 W1 W2 W3 W4 (fun i => i == k4 || f i) W4 := by
  obtain ⟨a1, a2, a3, a4⟩ := h
  exact ⟨by rw [a4]; simp [h0, h1], by simp [a1 (a2 h1)], by simp [a2 h1], by simp [h1], by simp⟩
end
/-- one of four worlds, by which of three operations are done, one behind the other -/
def FC3 (k1 k2 k3 : Nat) (W0 W1 W2 W3 : World) : (Nat → Bool) → World → Prop := fun f W =>
  (f k2 = true → f k1 = true) ∧ (f k3 = true → f k2 = true) ∧ W = (if f k3 = true then W3 else if f k2 = true then W2 else if f k1 = true then W1 else W0)
section
variable {k1 k2 k3 : Nat} {W0 W1 W2 W3 : World}
theorem FC3.start : FC3 k1 k2 k3 W0 W1 W2 W3 (fun _ => false) W0 := ⟨by simp, by simp, by simp⟩
theorem FC3.done {W : World} (h : FC3 k1 k2 k3 W0 W1 W2 W3 (fun _ => true) W) : W = W3 := by have := h.2.2; simpa using this
theorem FC3.s1 (hk : k1 ≠ k2 ∧ k1 ≠ k3) {f : Nat → Bool} {W : World} (h : FC3 k1 k2 k3 W0 W1 W2 W3 f W) (h0 : f k1 = false) : W = W0 ∧ FC3 k1 k2 k3 W0 W1 W2 W3 (fun i => i == k1 || f i) W1 := by
  obtain ⟨a1, a2, a4⟩ := h
  have b2 := no_of a1 h0; have b3 := no_of a2 b2
  have e2 : (k2 == k1) = false := by rw [beq_eq_false_iff_ne]; exact hk.1.symm
  have e3 : (k3 == k1) = false := by rw [beq_eq_false_iff_ne]; exact hk.2.symm
  exact ⟨by rw [a4]; simp [h0, b2, b3], by simp, by simp [b3, e3], by simp [b2, b3, e2, e3]⟩
theorem FC3.s2 (hk : k2 ≠ k1 ∧ k2 ≠ k3) {f : Nat → Bool} {W : World} (h : FC3 k1 k2 k3 W0 W1 W2 W3 f W) (h0 : f k2 = false) (h1 : f k1 = true) : W = W1 ∧ FC3 k1 k2 k3 W0 W1 W2 W3 (fun i => i == k2 || f i) W2 := by
  obtain ⟨a1, a2, a4⟩ := h
  have b3 := no_of a2 h0
  have e3 : (k3 == k2) = false := by rw [beq_eq_false_iff_ne]; exact hk.2.symm
  exact ⟨by rw [a4]; simp [h0, h1, b3], by simp [h1], by simp, by simp [b3, e3]⟩
theorem FC3.s3 (hk : k3 ≠ k1 ∧ k3 ≠ k2) {f : Nat → Bool} {W : World} (h : FC3 k1 k2 k3 W0 W1 W2 W3 f W) (h0 : f k3 = false) (h1 : f k2 = true) : W = W2 ∧ FC3 k1 k2 k3 W0 W1 W2 W3 (fun i => i == k3 || f i) W3 := by
  obtain ⟨a1, a2, a4⟩ := h
  exact ⟨by rw [a4]; simp [h0, h1], by simp [a1 h1], by simp [h1], by simp⟩
end
end Go.Proofs.Ytodbbacmdjcheaa
namespace Go.Proofs.Ytodbbacmdjcheaa
open Go.RowKit L02 L05 L06 L13 L73
def great36 (T : List (List UInt8)) : Bool := decide (10 < T.length) || T.any (fun t => decide (20 < t.length))
theorem great36_no {T : List (List UInt8)} (h : great36 T = false) : T.length ≤ 10 ∧ ∀ t ∈ T, t.length ≤ 20 := by
  rw [great36, Bool.or_eq_false_iff, decide_eq_false_iff_not] at h
  refine ⟨by omega, fun t ht => ?_⟩
  have := List.any_eq_false.1 h.2 t ht
  rw [decide_eq_true_iff] at this
  omega
set_option maxRecDepth 100000 in
set_option maxHeartbeats 2000000 in
theorem Great36_any (v : Value) (T : List (List UInt8)) (b : Bool) (hb : b = great36 T) (w : World) (h : Typs w v T) :
    Calls Try.prog 8 #[v] w fun e w' => e = .returned (.bool b) ∧ w = w' := by
  have l1 := h.len
  obtain ⟨N, hN⟩ : ∃ N, N = T.length := ⟨_, rfl⟩
  rw [← hN] at l1
  have l2 : N ≤ 9223372036854775807 := by rw [hN]; exact h.len_le
  have HN := Lib.hid hN; have H := Lib.hid h; have HR := Lib.hid hb; clear hN h hb
  by_cases h10 : 10 < N
  · obtain rfl : b = true := by rw [HR.out, great36, decide_eq_true (by rw [← HN.out]; exact h10)]; rfl
    go_enter Try.func8, Try.ntmps8
    go_wp2
    go_ret
    exact ⟨rfl, rfl⟩
  · have HG := Lib.hid (show b = T.any (fun t => decide (20 < t.length)) from by rw [HR.out, great36, decide_eq_false (by rw [← HN.out]; exact h10)]; rfl)
    clear HR
    go_enter Try.func8, Try.ntmps8
    go_wp2
    go_loop [3] (fun i => ∃ k : Nat, k ≤ N ∧ i = .int .i64 k ∧ Hid (b = (T.drop k).any (fun t => decide (20 < t.length)))) (fun i => N - (intOf i).toNat)
    case atStart => exact ⟨0, Nat.zero_le _, rfl, Lib.hid HG.out⟩
    case round =>
      obtain ⟨k, hk, rfl, hh⟩ := hrel
      by_cases hlt : k < N
      · obtain ⟨ad, x, t, ia, ca, htk, hbx⟩ := H.out.at_ (k := k) (by rw [← HN.out]; exact hlt)
        have lx := Rd.len hbx.out Try.underlying69
        have lm : t.length ≤ 9223372036854775807 := Rd.len_le hbx.out
        have one := hbx.out.oneCell
        have hd : (T.drop k).any (fun t => decide (20 < t.length)) = (decide (20 < t.length) || (T.drop (k + 1)).any (fun t => decide (20 < t.length))) := by
          obtain ⟨hk', e⟩ := List.getElem?_eq_some_iff.1 htk.out
          rw [List.drop_eq_getElem_cons hk', e]; rfl
        have HD := Lib.hid (hh.out.trans hd)
        obtain ⟨M, hM⟩ : ∃ M, M = t.length := ⟨_, rfl⟩
        rw [← hM] at lx lm
        have HM := Lib.hid hM
        clear hh hd hM htk hbx
        by_cases h20 : 20 < M
        · obtain rfl : b = true := by rw [HD.out, decide_eq_true (by rw [← HM.out]; exact h20)]; rfl
          go_wp2
          go_ret
          exact ⟨rfl, rfl⟩
        · have HE := Lib.hid (show b = (T.drop (k + 1)).any (fun t => decide (20 < t.length)) from by rw [HD.out, decide_eq_false (by rw [← HM.out]; exact h20)]; rfl)
          clear HD
          go_wp2
          go_round
          case rel => exact ⟨k + 1, by omega, by go_num, HE⟩
          case measure => simp [intOf]; omega
      · obtain rfl : k = N := by omega
        obtain rfl : b = false := by rw [hh.out, List.drop_of_length_le (by rw [← HN.out]; omega)]; rfl
        go_wp2
        go_ret
        exact ⟨rfl, rfl⟩
set_option maxRecDepth 100000 in
set_option maxHeartbeats 2000000 in
theorem Twin36_any (v : Value) (T : List (List UInt8)) (hT : T.length ≤ 10) (ht : ∀ t ∈ T, t.length ≤ 20) (w : World) (h : Typs w v T) :
    Calls Try.prog 9 #[v] w fun e w' => ∃ y, e = .returned y ∧ OwnT w' w.heap.size y T ∧ Below w.heap.size w w' := by
  have l1 := h.len
  obtain ⟨N, hN⟩ : ∃ N, N = T.length := ⟨_, rfl⟩
  rw [← hN] at l1
  have hN10 : N ≤ 10 := by omega
  have HN := Lib.hid hN; have H := Lib.hid h; have HT := Lib.hid ht
  have HO := Lib.hid (OwnT.nil w w.heap.size)
  have HB := Lib.hid (Below.refl w.heap.size w)
  clear hN h ht hT
  go_enter Try.func9, Try.ntmps9
  go_wp2
  go_loopg [3, 4] N (fun g ov i wr => ∃ k : Nat, ∃ o : Value, k ≤ N ∧ g = N - k ∧ i = .int .i64 k ∧ o = ov ∧ Hid (OwnT wr w.heap.size o (T.take k)) ∧ Hid (Below w.heap.size w wr))
  case atStart => exact ⟨0, _, by omega, by omega, rfl, rfl, by rw [List.take_zero]; exact HO, HB⟩
  case round =>
    clear HO HB
    obtain ⟨k, ov, hk, rfl, rfl, rfl, ho, hb⟩ := hrel
    by_cases hlt : k < N
    · obtain ⟨ad, x, t, ia, ca, htk, hbx⟩ := (H.out.below (hb.out.alloc hb.out.size (.cells #[] 5))).at_ (k := k) (by rw [← HN.out]; exact hlt)
      obtain ⟨vs, z1, z2, z4⟩ := ho.out
      have htl := HT.out t (List.mem_of_getElem? htk.out)
      have one := hbx.out.oneCell
      have HTK := Lib.hid (show T.take (k + 1) = T.take k ++ [t] from by rw [List.take_add_one, htk.out]; rfl)
      have hlk : (T.take k).length = k := by rw [List.length_take, ← HN.out]; omega
      have b1 : Below wr.heap.size wr (wr.alloc (.cells #[] 5)) := (Below.refl _ wr).alloc (Nat.le_refl _) _
      have l0 := lit0_own (B := wr.heap.size) (w := wr) (e := 5) (sz := 1) (Nat.le_refl _)
      obtain ⟨y, W2, r2, o2, gr2⟩ := run_append_rd (P := Try.prog) (w := wr.alloc (.cells #[] 5)) (ty := 69) Try.underlying69 info_u8 rfl (by omega) l0 hbx.out (one_u8s _) (by omega) (by omega) b1.size
      have b2 : Below wr.heap.size wr W2 := b1.grown gr2 b1.size (fun k hk => (l0.lt k hk).1)
      have oy : OwnB W2 wr.heap.size 5 y t := OwnB.of o2 (by simp)
      have hz := b2.size
      have hB := hb.out.size
      have b3 := b2.alloc hz (.cells #[y] 69)
      obtain ⟨v2, W4, r3, o3, gr3⟩ := run_append_rd (P := Try.prog) (w := W2.alloc (.cells #[y] 69)) (ty := 22) (B := w.heap.size) Try.underlying22 info_bytes rfl (by omega) (own_below z2 b3) lit_rd (by intro u hu; simp at hu; subst hu; exact (OwnB.rd oy).oneCell) (by omega) (by omega) (Nat.le_trans hB b3.size)
      have B4 : Below w.heap.size w W4 := (hb.out.trans (b3.mono hB)).grown gr3 (Nat.le_trans hB b3.size) (fun k hk => ((own_below z2 b3).lt k hk).1)
      have oT : OwnT W4 w.heap.size v2 (T.take (k + 1)) := by
        rw [HTK.out]
        exact OwnT.snoc z1 (own_below z2 b3) o3 (fun i x l h5 h6 => (z4 i x l h5 h6).below b3) (OwnB.below (own_mono oy hB) ((Below.refl _ W2).alloc (Nat.le_refl _) _)) gr3
      obtain ⟨yA, yc, rfl, _⟩ := OwnB.rd oy
      have HR := Lib.hid (And.intro oT B4)
      clear z1 z2 z4 htk hlk hbx b1 l0 o2 gr2 b2 oy hz hB b3 o3 gr3 B4 oT HTK htl ho
      go_wp2_with (first
        | (at_builtin
           refine wpList_builtin2 (by rfl) rfl rfl rfl (dv := .slice (some ⟨wr.heap.size, 0, none⟩) 0 0) (sv := x) (v := .slice yA t.length yc) (w' := W2) (fun cs => by simp only [builtin, Sem.run_bind, r2, Result.andThen_ok]; rfl) ?_)
        | (at_builtin
           refine wpList_builtin2 (by rfl) rfl rfl rfl (dv := ov) (sv := .slice (some ⟨W2.heap.size, 0, none⟩) 1 1) (v := v2) (w' := W4) (fun cs => by simp only [builtin, Sem.run_bind, r3, Result.andThen_ok]; rfl) ?_))
      go_roundg (N - (k + 1))
      case measure => omega
      case rel => exact ⟨k + 1, _, by omega, rfl, by go_num, rfl, Lib.hid HR.out.1, Lib.hid HR.out.2⟩
    · obtain rfl : k = N := by omega
      have HO := Lib.hid (show OwnT wr w.heap.size ov T from by have := ho.out; rwa [List.take_of_length_le (by rw [← HN.out]; exact Nat.le_refl _)] at this)
      clear ho
      go_wp2
      go_ret
      exact ⟨_, rfl, HO.out, hb.out⟩
end Go.Proofs.Ytodbbacmdjcheaa
