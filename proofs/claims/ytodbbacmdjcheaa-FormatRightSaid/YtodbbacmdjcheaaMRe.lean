/- Contracts of the functions that the laws 'R' reach, part 5. No condition. -/
import Derived.Test.YtodbbacmdjcheaaMRd
set_option linter.unusedVariables false
set_option linter.unusedSimpArgs false
namespace Go.Proofs.Ytodbbacmdjcheaa
open Go.RowKit Go.Shelf L02 L05 L06 L13 L14 L19 L73
/-- P36.1: the error of words and types -/
def imgErr (n : Int) (T : List (List UInt8)) : Int := if ¬ SizeOk n then 2 else if 8 < T.length then 4 else errT T
def imgP (n : Int) (T : List (List UInt8)) : List UInt64 := if imgErr n T = 0 then imageP n.toNat T else []
theorem own_atM {A B : World} {Bs e sz n M : Nat} {v : Value} {xs : List Value} (h : A.ownsRow Bs e sz v n xs) (hv : ∀ g, v.ownBlock = some g → g < M) (hb : Below M A B) : B.ownsRow Bs e sz v n xs := by
  refine ⟨h.1, h.2.imp id ?_⟩
  rintro ⟨g, cap, cur, h1, h2, h3, h4⟩
  exact ⟨g, cap, cur, h1, h2, (hb.block g (hv g (by rw [h1]; rfl))).trans h3, h4⟩
theorem own_one94 {w : World} {B E : Nat} {v : Value} {l : List UInt64} (h : OwnW w B E v l) : ∃ A n c, v = .slice A n c := by
  obtain ⟨A, c, h, _⟩ := Rd.of_own h; exact ⟨A, _, c, h⟩
theorem arr_words94 {w : World} {g : Nat} {t : TypeId} {a b : UInt64} (h : Bx w g t #[.int .u64 a.toNat, .int .u64 b.toNat]) : Rd w 1 (.slice (some ⟨g, 0, none⟩) 2 2) 2 ([a, b].map u64) :=
  part_words (w := w) (g := g) (n := 2) (c := 2) (cs := #[.int .u64 a.toNat, .int .u64 b.toNat]) [a, b] h rfl rfl rfl (by show 2 ≤ 1048576; omega)
theorem bx_at {A B : World} {g M : Nat} {t : TypeId} {cs : Array Value} (h : Bx A g t cs) (hg : g < M) (hb : Below M A B) : Bx B g t cs := (hb.block g hg).trans h
/-- the state of Image between two rounds -/
structure ImgJ (w A : World) (M g6 g7 tb eb : Nat) (ev : Int) (v tv : Value) (l : List UInt64) : Prop where
  own : OwnW A w.heap.size 64 v l
  blk : ∀ g, v.ownBlock = some g → g < g6
  bel : Below w.heap.size w A
  b6 : Bx A g6 25 #[v]
  b7 : Bx A g7 26 #[.int .i64 ev]
  ct : Bx A tb 22 #[tv]
  ce : Bx A eb 75 #[.pointer (some ⟨g7, 0, none⟩)]
  le : w.heap.size ≤ g6 ∧ g6 < g7 ∧ g7 < tb ∧ tb < eb ∧ eb < M
section
variable {w A B : World} {M g6 g7 tb eb : Nat} {ev : Int} {v tv : Value} {l l' : List UInt64}
theorem ImgJ.below (h : ImgJ w A M g6 g7 tb eb ev v tv l) (hb : Below M A B) : ImgJ w B M g6 g7 tb eb ev v tv l := by
  obtain ⟨h1, h2, h3, h4, h5, h6, h7, h8⟩ := h
  exact ⟨own_atM h1 (fun g hg => by have := h2 g hg; omega) hb, h2, h3.trans (hb.mono (by omega)), bx_at h4 (by omega) hb, bx_at h5 (by omega) hb, bx_at h6 (by omega) hb, bx_at h7 (by omega) hb, h8⟩
theorem ImgJ.grown (h : ImgJ w A M g6 g7 tb eb ev v tv l) (o : OwnW B w.heap.size 64 v l') (b : Below w.heap.size A B) (g : A.grownBy B v.ownBlock) : KeepsFrom M A B ∧ ImgJ w B M g6 g7 tb eb ev v tv l' := by
  obtain ⟨h1, h2, h3, h4, h5, h6, h7, h8⟩ := h
  have ne : ∀ k, g6 ≤ k → v.ownBlock = none ∨ v.ownBlock ≠ some k := fun k hk => .inr fun e => by have := h2 k e; omega
  exact ⟨KeepsFrom.of_grownBy g fun j hj => by have := h2 j hj; omega,
    o, h2, h3.trans b, h4.grown g (ne _ (by omega)), h5.grown g (ne _ (by omega)), h6.grown g (ne _ (by omega)), h7.grown g (ne _ (by omega)), h8⟩
theorem ImgJ.err (h : ImgJ w A M g6 g7 tb eb ev v tv l) (e' : Int) : ImgJ w (A.setCell ⟨g7, 0, none⟩ (.int .i64 e')) M g6 g7 tb eb e' v tv l := by
  obtain ⟨h1, h2, h3, h4, h5, h6, h7, h8⟩ := h
  have ne : v.ownBlock = none ∨ v.ownBlock ≠ some g7 := .inr fun e => by have := h2 g7 e; omega
  exact ⟨World.ownsRow.kept h1 (grownBy_setCell' A g7 _) ne, h2, h3.setCell (p := ⟨g7, 0, none⟩) (by show _ ≤ g7; omega) _, h4.far (by show g6 ≠ g7; omega) _, h5.set _, h6.far (by show tb ≠ g7; omega) _, h7.far (by show eb ≠ g7; omega) _, h8⟩
/-- .. behind the loop: the block of the rounds' deferred calls is there -/
def ImgD (w A : World) (M g6 g7 tb eb : Nat) (ev : Int) (v tv : Value) (l : List UInt64) : Prop := ImgJ w A M g6 g7 tb eb ev v tv l ∧ A.heap[M]? = some (.deferred (some []))
theorem ImgD.below (h : ImgD w A M g6 g7 tb eb ev v tv l) (hb : Below A.heap.size A B) : ImgD w B M g6 g7 tb eb ev v tv l := by
  have hlt := (Array.getElem?_eq_some_iff.1 h.2).1
  exact ⟨h.1.below (hb.mono (by omega)), (hb.block _ hlt).trans h.2⟩
theorem ImgD.err (h : ImgD w A M g6 g7 tb eb ev v tv l) (e' : Int) : ImgD w (A.setCell ⟨g7, 0, none⟩ (.int .i64 e')) M g6 g7 tb eb e' v tv l :=
  ⟨h.1.err e', (KeepsOthers.setCell A _ _).same M _ h.2 rfl⟩
theorem ImgD.grown (h : ImgD w A M g6 g7 tb eb ev v tv l) (o : OwnW B w.heap.size 64 v l') (b : Below w.heap.size A B) (g : A.grownBy B v.ownBlock) : ImgD w B M g6 g7 tb eb ev v tv l' := by
  obtain ⟨h1, h2⟩ := h.1.grown o b g
  exact ⟨h2, h1.same M _ (Nat.le_refl _) h.2 rfl⟩
/-- a row of the call's own, younger than the image -/
theorem own_far94 {Bs e sz n : Nat} {x : Value} {xs : List Value} {row : Option Nat} (h : A.ownsRow Bs e sz x n xs) (g : A.grownBy B row) (hr : ∀ j, row = some j → j < Bs) : B.ownsRow Bs e sz x n xs := by
  refine World.ownsRow.kept h g ?_
  cases hx : x.ownBlock with
  | none => exact .inl rfl
  | some j =>
    refine .inr fun e' => ?_
    have := (h.lt j hx).1
    have := hr j e'.symm
    omega
/-- put, seen from Image -/
theorem putD_any (hD : ImgD w A M g6 g7 tb eb ev v tv l) {m : List UInt64} {a : Nat} {z : Int} {sv : Value} (hz : z = a) (hm : a + m.length ≤ l.length) (hs : Rd A 1 sv m.length (m.map u64)) :
    Calls Try.prog 28 #[v, .int .i64 z, sv] A fun e B => (∃ u, e = .returned u) ∧ ImgD w B M g6 g7 tb eb ev v tv (putW l a m) ∧ A.grownBy B v.ownBlock := by
  subst hz
  refine (put_any v sv l m a w.heap.size hm A hD.1.own hs hD.1.bel.size).mono ?_
  rintro e B ⟨h1, h2, h3, h4⟩
  exact ⟨h1, hD.grown h2 h3 h4, h4⟩
/-- the function's end: the block is shut -/
theorem ImgD.shut (h : ImgD w A M g6 g7 tb eb ev v tv l) : ImgJ w (A.putObj M (.deferred none)) M g6 g7 tb eb ev v tv l := h.1.below (RF.put_below _ (Nat.le_refl _))
end
set_option maxRecDepth 100000 in
set_option maxHeartbeats 4000000 in
theorem Image_any (n : Int) (tv : Value) (T : List (List UInt8)) (w : World) (h : Typs w tv T) : Calls Try.prog 10 #[.int .i64 n, tv] w (RetWE w (imgP n T) (imgErr n T)) := by
  have B : Below w.heap.size w w := Below.refl _ _
  have HB := Lib.hid B
  by_cases hs : ¬ SizeOk n
  · have hne : newErr n = 2 := by simp [newErr, hs]
    have hnw : new n = [] := by simp [new, hs]
    have hE : imgErr n T = 2 := by rw [imgErr, if_pos hs]
    have hI : imgP n T = [] := by rw [imgP, hE, if_neg (by decide)]
    rw [hE, hI]
    have NT := Lib.hid (fun w => (show Calls Try.prog 26 #[.int .i64 n] w (RetWE w [] 2) from by have := New_any n w; rw [hne, hnw] at this; exact this))
    clear hne hnw hE hI hs
    go_enter Try.func10, Try.ntmps10
    go_wp2_with fail
    refine (NT.out _).mono ?_
    rintro e w1 ⟨v, rfl, o, b⟩
    obtain ⟨A0, n0, c0, rfl⟩ := own_one94 o
    replace B := B.trans b; clear b o
    go_upto_region 2 with (fail)
    refine wp_gen (fun Wv => Bx Wv (w1.heap.size) (25) (#[.slice A0 n0 c0]) ∧ Bx Wv (w1.heap.size + 1) (26) (#[.int .i64 2]) ∧ Below w1.heap.size w1 Wv) ⟨(((Bx.at_ (by simp)).alloc _)), ((Bx.at_ (by simp))), (((Below.refl _ w1).alloc (by simp <;> omega) _).alloc (by simp <;> omega) _)⟩ ?_
    rintro wa1 ⟨g6, g7, b⟩
    replace B := B.trans (b.mono B.size); clear b
    have c_g6 := g6.cell; have f_g6 := g6.free; have a_g6 := fun o => (g6.alloc o).cell; have d_g6 := fun o o2 => ((g6.alloc o).alloc o2).cell; have e_g6 := fun o => (g6.alloc o).free
    have c_g7 := g7.cell; have f_g7 := g7.free; have a_g7 := fun o => (g7.alloc o).cell; have d_g7 := fun o o2 => ((g7.alloc o).alloc o2).cell; have e_g7 := fun o => (g7.alloc o).free
    go_wp2_with fail
    go_big_quiet (fail)
    go_wp2
    go_ret2
    exact ⟨_, rfl, OwnW.nil _ _ _, ⟨B.os, B.tape, B.output, B.size, B.block⟩⟩
  · have hs' : SizeOk n := Decidable.not_not.1 hs
    have hne : newErr n = 0 := by simp [newErr, hs']
    obtain ⟨N, rfl⟩ := Int.eq_ofNat_of_zero_le (show 0 ≤ n by have := hs'.1; omega)
    have hnw : new (N : Int) = List.replicate N 0 := by simp [new, hs']
    have hN : 256 ≤ N ∧ N ≤ 2048 := by have := hs'.1; have := hs'.2.1; omega
    have NT := Lib.hid (fun w => (show Calls Try.prog 26 #[.int .i64 N] w (RetWE w (List.replicate N 0) 0) from by have := New_any N w; rw [hne, hnw] at this; exact this))
    have TL := h.len
    have HT := Lib.hid h
    by_cases h8 : 8 < T.length
    · have hE : imgErr N T = 4 := by rw [imgErr, if_neg hs, if_pos h8]
      have hI : imgP N T = [] := by rw [imgP, hE, if_neg (by decide)]
      rw [hE, hI]
      have h8' : (8 : Int) < T.length := by omega
      obtain ⟨t, ht⟩ : ∃ t, t = T.length := ⟨_, rfl⟩
      rw [← ht] at TL h8'
      clear hne hnw hE hI hs hs' ht h8 h hN
      go_enter Try.func10, Try.ntmps10
      go_wp2_with fail
      refine (NT.out _).mono ?_
      rintro e w1 ⟨v, rfl, o, b⟩
      obtain ⟨A0, n0, c0, rfl⟩ := own_one94 o
      replace B := B.trans b; clear b o
      go_upto_region 2 with (fail)
      refine wp_gen (fun Wv => Bx Wv (w1.heap.size) (25) (#[.slice A0 n0 c0]) ∧ Bx Wv (w1.heap.size + 1) (26) (#[.int .i64 0]) ∧ Below w1.heap.size w1 Wv) ⟨(((Bx.at_ (by simp)).alloc _)), ((Bx.at_ (by simp))), (((Below.refl _ w1).alloc (by simp <;> omega) _).alloc (by simp <;> omega) _)⟩ ?_
      rintro wa1 ⟨g6, g7, b⟩
      replace B := B.trans (b.mono B.size); clear b
      have c_g6 := g6.cell; have f_g6 := g6.free; have a_g6 := fun o => (g6.alloc o).cell; have d_g6 := fun o o2 => ((g6.alloc o).alloc o2).cell; have e_g6 := fun o => (g6.alloc o).free
      have c_g7 := g7.cell; have f_g7 := g7.free; have a_g7 := fun o => (g7.alloc o).cell; have d_g7 := fun o o2 => ((g7.alloc o).alloc o2).cell; have e_g7 := fun o => (g7.alloc o).free
      go_wp2
      go_ret2
      exact ⟨_, rfl, OwnW.nil _ _ _, B⟩
    · have h8' : (T.length : Int) ≤ 8 := by omega
      obtain ⟨t, ht⟩ : ∃ t, t = T.length := ⟨_, rfl⟩
      rw [← ht] at TL h8'
      have HE := Lib.hid (show imgErr N T = errT T from by rw [imgErr, if_neg hs, if_neg h8])
      have HTL := Lib.hid ht; have HS := Lib.hid hs'; have HN := Lib.hid hN; have HN0 := Lib.hid hN
      clear hne hnw hs hs' ht h8 h hN
      refine (callsIn_wide (n := 3)).1 ?_
      refine callsIn_of_wp_marks Try.func10 rfl trivial ?_ rfl
      simp only [Try.ntmps10, List.size_toArray, List.length_cons, List.length_nil, Nat.reduceAdd, Nat.reduceSub, Array.replicate_succ, Array.replicate_zero, List.push_toArray, List.append_toArray, List.nil_append, List.cons_append]
      refine wpIn_wide.2 ?_
      go_wp2_with fail
      refine (NT.out _).mono ?_
      rintro e w1 ⟨v, rfl, o, b⟩
      obtain ⟨A0, n0, c0, rfl⟩ := own_one94 o
      replace B := B.trans b; clear b
      have HW := Lib.hid B.size
      have HG := Lib.hid (fun g hg => (o.lt g hg).2)
      go_upto_region 2 with (fail)
      refine wp_gen (fun Wv => Bx Wv (w1.heap.size) (25) (#[.slice A0 n0 c0]) ∧ Bx Wv (w1.heap.size + 1) (26) (#[.int .i64 0]) ∧ Below w1.heap.size w1 Wv) ⟨(((Bx.at_ (by simp)).alloc _)), ((Bx.at_ (by simp))), (((Below.refl _ w1).alloc (by simp <;> omega) _).alloc (by simp <;> omega) _)⟩ ?_
      rintro wa1 ⟨g6, g7, b⟩
      replace o := o.below b; replace B := B.trans (b.mono B.size); clear b
      have c_g6 := g6.cell; have f_g6 := g6.free; have a_g6 := fun o => (g6.alloc o).cell; have d_g6 := fun o o2 => ((g6.alloc o).alloc o2).cell; have e_g6 := fun o => (g6.alloc o).free
      have c_g7 := g7.cell; have f_g7 := g7.free; have a_g7 := fun o => (g7.alloc o).cell; have d_g7 := fun o o2 => ((g7.alloc o).alloc o2).cell; have e_g7 := fun o => (g7.alloc o).free
      go_wp2_with fail
      refine (wordsT_any tv T _ _ (HT.out.below B)).mono ?_
      rintro e w2 ⟨rfl, rfl⟩
      have J0 : ImgJ w ((wa1.alloc (.cells #[tv] 22)).alloc (.cells #[.pointer (some ⟨w1.heap.size + 1, 0, none⟩)] 75)) (wa1.heap.size + 2) w1.heap.size (w1.heap.size + 1) wa1.heap.size (wa1.heap.size + 1) 0 (.slice A0 n0 c0) tv (List.replicate N 0) := by
        have a1 : Below wa1.heap.size wa1 ((wa1.alloc (.cells #[tv] 22)).alloc (.cells #[.pointer (some ⟨w1.heap.size + 1, 0, none⟩)] 75)) := ((Below.refl _ _).alloc (Nat.le_refl _) _).alloc (by simp) _
        have a2 := g7.lt
        refine ⟨own_below o a1, HG.out, B.trans (a1.mono B.size), g6.below a1, g7.below a1, (Bx.new _ _ _).alloc _, ?_, by have := HW.out; omega⟩
        have := Bx.new (wa1.alloc (.cells #[tv] 22)) 75 #[.pointer (some ⟨w1.heap.size + 1, 0, none⟩)]
        rwa [World.size_alloc] at this
      have hsz : ((wa1.alloc (.cells #[tv] 22)).alloc (.cells #[.pointer (some ⟨w1.heap.size + 1, 0, none⟩)] 75)).heap.size = wa1.heap.size + 2 := by simp
      have hb5 : wa1.heap.size + 1 ≠ w1.heap.size := by have := B.size; have := g6.lt; omega
      revert J0 hsz
      generalize ((wa1.alloc (.cells #[tv] 22)).alloc (.cells #[.pointer (some ⟨w1.heap.size + 1, 0, none⟩)] 75)) = w3
      intro J0 hsz
      rw [← hsz] at J0
      obtain ⟨s1, hs1⟩ : ∃ s, s = w1.heap.size := ⟨_, rfl⟩
      obtain ⟨s3, hs3⟩ : ∃ s, s = wa1.heap.size := ⟨_, rfl⟩
      rw [← hs1, ← hs3] at J0
      rw [← hs1, ← hs3]
      clear hs1 hs3 o g6 g7 c_g6 f_g6 a_g6 d_g6 e_g6 c_g7 f_g7 a_g7 d_g7 e_g7 B hb5 HG hsz HW
      go_wp2_with fail
      refine wpIn_wide.1 (RF.wpIn_rangeE (m := 3) (gf := 54) (lb := #[.pointer (some ⟨s3, 0, none⟩), .pointer (some ⟨s3 + 1, 0, none⟩)]) rfl (enters_of Try.func54 (by kernel_rfl) rfl)
        (fun k A => ImgJ w A w3.heap.size s1 (s1 + 1) s3 (s3 + 1) 0 (.slice A0 n0 c0) tv (tysP (List.replicate N 0) T k)) (fun k A B h hb => h.below hb) J0 t (encY T) (fun _ => rfl)
        (fun k A B => (errT T = 0 ∧ k = T.length ∧ B = A) ∨ (errT T ≠ 0 ∧ B = A.setCell ⟨s1 + 1, 0, none⟩ (.int .i64 (errT T)))) ?hR ?hcall ?hround ?hdone)
      case hR =>
        rintro k A B _ (⟨_, _, rfl⟩ | ⟨_, rfl⟩)
        · exact KeepsFrom.refl _ _
        · exact RF.keeps_set _ _ _
      case hcall =>
        intro l J' W h1 h2 h3 h4
        refine wordsT1_any 1 l s3 (s3 + 1) (s1 + 1) tv T (by have := HTL.out; omega) J' h2 (fun k A h => ?_) (fun k A h hk => h3 k A h (by rw [HTL.out]; exact hk)) W h4
        have hj := h1 k A h
        exact ⟨HT.out.below hj.bel, hj.ct.cell 0, hj.ce.cell 0, hj.b7.cell 0, hj.b7.free 0⟩
      case hround =>
        intro l k A hl1 hl2 hj hk
        have hkk := Lib.hid hk; have HJ := Lib.hid hj; have HL1 := Lib.hid hl1; have HL2 := Lib.hid hl2
        clear hk hj hl1 hl2
        have hsem := @Oper.semAt_some
        unfold encY
        obtain ⟨a, ha⟩ : ∃ a, a = w0 (T.getD k []) := ⟨_, rfl⟩
        obtain ⟨c, hc⟩ : ∃ c, c = L13.w1 (T.getD k []) := ⟨_, rfl⟩
        rw [← ha, ← hc]
        have HA := Lib.hid ha; have HC := Lib.hid hc
        clear ha hc
        gi_wp2
        have al := (Below.refl A.heap.size A).alloc (Nat.le_refl _) (.cells #[.int .u64 a.toNat, .int .u64 c.toNat] 76)
        have bx := Bx.new A 76 #[.int .u64 a.toNat, .int .u64 c.toNat]
        refine ⟨RF.keeps_below al, fun r => ?_⟩
        have sA : w3.heap.size ≤ A.heap.size := by have := HL1.out; have := HL2.out; omega
        have jx := (HJ.out.below (al.mono sA)).below (RF.put_below (n := w3.heap.size) (l := l) (.loop r) (Nat.le_of_lt HL1.out))
        have gx : Bx ((A.alloc (.cells #[.int .u64 a.toNat, .int .u64 c.toNat] 76)).putObj l (.loop r)) A.heap.size 76 #[.int .u64 a.toNat, .int .u64 c.toNat] := (World.putObj_heap_other (by have := HL2.out; omega)).trans bx
        clear al bx
        revert jx gx
        generalize (A.alloc (.cells #[.int .u64 a.toNat, .int .u64 c.toNat] 76)).putObj l (.loop r) = X
        intro jx gx
        have c6 := jx.b6.cell
        have JX := Lib.hid jx; have GX := Lib.hid gx; have SA := Lib.hid sA
        clear jx gx sA
        gi_wp2_with fail
        have hmix : Try.prog.follows .mixedOrders = true := by kernel_rfl
        have hlen : (tysP (List.replicate N 0) T k).length = N := by rw [tysP_len, List.length_replicate]
        have PT : Calls Try.prog 28 #[.slice A0 n0 c0, .int .i64 (96 + 2 * (k : Int)), .slice (some ⟨A.heap.size, 0, none⟩) 2 2] X.drew fun e w' => (∃ u, e = .returned u) ∧ OwnW w' w.heap.size 64 (.slice A0 n0 c0) (putW (tysP (List.replicate N 0) T k) (96 + 2 * k) [a, c]) ∧ Below w.heap.size X.drew w' ∧ X.drew.grownBy w' (Value.slice A0 n0 c0).ownBlock := by
          have := put_any (.slice A0 n0 c0) (.slice (some ⟨A.heap.size, 0, none⟩) 2 2) (tysP (List.replicate N 0) T k) [a, c] (96 + 2 * k) w.heap.size (by rw [hlen]; have := HN.out; have := hkk.out; simp; omega) X.drew JX.out.own (arr_words94 GX.out) JX.out.bel.size
          rw [show (((96 + 2 * k : Nat)) : Int) = 96 + 2 * (k : Int) by omega] at this
          exact this
        have HPT := Lib.hid PT; clear PT hlen
        gi_region_with_o (refine ⟨trivial, ?_⟩; gi_at_call 28; refine (CallsIn.inRound l (callsIn_wide.2 HPT.out)).mono ?_; rintro e w' ⟨⟨u, rfl⟩, oo, bb, gg⟩)
        all_goals gi_wp2
        all_goals
          have fin := (JX.out.below (Below.refl w3.heap.size X).drew).grown (l' := tysP (List.replicate N 0) T (k + 1)) (by rw [tysP, ← HA.out, ← HC.out]; exact oo) bb gg
          exact ⟨⟨fin.1.size, fin.1.same⟩, fin.2⟩
      case hdone =>
        intro k A B r hj hr hlt hD
        have D0 : ImgD w (B.putObj (w3.heap.size + 1) (.loop r)) w3.heap.size s1 (s1 + 1) s3 (s3 + 1) (errT T) (.slice A0 n0 c0) tv (tysP (List.replicate N 0) T k) := by
          refine ⟨ImgJ.below (A := B) ?_ (RF.put_below _ (by omega)), (World.putObj_heap_other (by omega)).trans hD⟩
          rcases hr with ⟨h0, _, rfl⟩ | ⟨_, rfl⟩
          · rw [h0]; exact hj
          · exact hj.err _
        have HK := Lib.hid (show errT T = 0 → k = T.length from fun h0 => hr.elim (fun h => h.2.1) (fun h => absurd h0 h.1))
        revert D0
        generalize B.putObj (w3.heap.size + 1) (.loop r) = Y
        clear hr hlt hD hj A B
        intro D0
        have HER : Hid (imgErr N T = errT T ∧ imgP N T = if errT T = 0 then imageP N T else []) := Lib.hid ⟨HE.out, by rw [imgP, HE.out]; rfl⟩
        clear HE
        generalize errT T = er at D0 HK HER
        have c7 := D0.1.b7.cell
        have HD := Lib.hid D0; clear D0
        dsimp only
        by_cases h0 : er = 0
        · have hk := HK.out h0
          subst hk
          subst h0
          have h3 : imgErr N T = 0 ∧ imgP N T = imageP N T := ⟨HER.out.1, by rw [HER.out.2, if_pos rfl]⟩
          have HI := Lib.hid h3
          have hok : SupOk N t := ⟨HS.out, by omega, h8'⟩
          obtain ⟨ws, hws⟩ : ∃ ws, ws = wordsOf N t := ⟨_, rfl⟩
          have hwl : ws.length = 8 := by rw [hws]; exact len_words _ _
          have WT := Lib.hid (fun W => (show Calls Try.prog 29 #[.agg #[.int .i64 N, .int .i64 t]] W (RetWB W ws 0) from by
            have := Write6_any N t W; rw [supErr, write, if_pos hok, if_pos hok, ← hws] at this; exact this))
          have hbk : BkOk ⟨0, (N : Int) - 128, 2, 0, false, 0⟩ := by
            have := HS.out; unfold SizeOk at this; exact ⟨⟨show (2 : Int) ≤ (N : Int) - 128 by omega, show ((N : Int) - 128) % 2 = 0 by omega⟩, .inr ⟨rfl, rfl, rfl, show (N : Int) - 128 ≤ 1920 by omega⟩⟩
          obtain ⟨hv, hhv⟩ : ∃ x, x = word ⟨0, (N : Int) - 128, 2, 0, false, 0⟩ := ⟨_, rfl⟩
          have HT2 := Lib.hid (fun W => (show Calls Try.prog 30 #[.agg #[.int .i64 0, .int .i64 ((N : Int) - 128), .int .i64 2, .int .i64 0, .bool false, .int .u64 0]] W (fun e w' => e = .returned (.tuple #[.int .u64 hv.toNat, .int .i64 0]) ∧ Below W.heap.size W w') from
            HWord_any ⟨0, (N : Int) - 128, 2, 0, false, 0⟩ hv 0 hhv (hErr_ok hbk).symm W))
          have hN := HN.out
          have hwr : IntKind.i64.wrap ((N : Int) - 128) = (N : Int) - 128 := IntWalk.i64_in _ (by omega)
          have HWS := Lib.hid hws; have HWL := Lib.hid hwl; have HHV := Lib.hid hhv
          clear h3 hok hws hwl hbk hhv hN HK HER
          go_wp2_with fail
          refine (WT.out _).mono ?_
          rintro e Y2 ⟨s, rfl, ⟨E, os⟩, b⟩
          have D2 := HD.out.below b
          have c7 := D2.1.b7.cell
          have f7 := D2.1.b7.free
          go_upto_region 13 with (fail)
          have hYM : w3.heap.size < Y.heap.size := (Array.getElem?_eq_some_iff.1 HD.out.2).1
          have hle := D2.1.le
          refine wp_gen (fun V => ImgD w V w3.heap.size s1 (s1 + 1) s3 (s3 + 1) 0 (.slice A0 n0 c0) tv (tysP (List.replicate N 0) T T.length) ∧ OwnW V Y.heap.size E s ws) ⟨D2.err 0, own_far94 os (grownBy_setCell' _ _ _) (fun j hj => by cases hj; omega)⟩ ?_
          rintro Y3 ⟨D3, os3⟩
          have HLE := Lib.hid (And.intro hYM hle)
          clear D2 os c7 f7 b WT HD hYM hle
          have c7 := D3.1.b7.cell
          have H3 := Lib.hid (And.intro D3 os3); clear D3 os3
          go_wp2_with fail
          refine (HT2.out _).mono ?_
          rintro e Y4 ⟨rfl, b⟩
          have D4 := H3.out.1.below b
          have os4 := own_below H3.out.2 b
          clear c7 b H3
          have c7 := D4.1.b7.cell
          have f7 := D4.1.b7.free
          go_upto_region 16 with (fail)
          refine wp_gen (fun V => ImgD w V w3.heap.size s1 (s1 + 1) s3 (s3 + 1) 0 (.slice A0 n0 c0) tv (tysP (List.replicate N 0) T T.length) ∧ OwnW V Y.heap.size E s ws) ⟨D4.err 0, own_far94 os4 (grownBy_setCell' _ _ _) (fun j hj => by cases hj; have := HLE.out; omega)⟩ ?_
          rintro Y5 ⟨D5, os5⟩
          clear D4 os4 c7 f7 HT2
          have c7 := D5.1.b7.cell
          have c6 := D5.1.b6.cell
          have H5 := Lib.hid (And.intro D5 os5); clear D5 os5
          go_wp2_with fail
          have hl0 : (tysP (List.replicate N 0) T T.length).length = N := by rw [tysP_len, List.length_replicate]
          have HL0 := Lib.hid hl0; clear hl0
          refine (putD_any (m := ws) (a := 0) H5.out.1 rfl (by rw [HWL.out, HL0.out]; have := HN0.out; omega) (OwnW.rd H5.out.2)).mono ?_
          rintro e Y6 ⟨⟨u, rfl⟩, D6, g⟩
          have os6 := own_far94 H5.out.2 g (fun j hj => by have := D6.1.blk j hj; have := HLE.out; omega)
          clear c6 c7 H5 g
          have c6 := D6.1.b6.cell
          have H6 := Lib.hid (And.intro D6 os6); clear D6 os6
          go_wp2_with fail
          refine (putD_any (m := ws) (a := 8) H6.out.1 rfl (by rw [putW_len, HWL.out, HL0.out]; have := HN0.out; omega) (OwnW.rd H6.out.2)).mono ?_
          rintro e Y7 ⟨⟨u, rfl⟩, D7, -⟩
          clear c6 H6
          have c6 := D7.1.b6.cell
          have H7 := Lib.hid D7; clear D7
          go_wp2_with fail
          have D8 := H7.out.below ((Below.refl _ _).alloc (Nat.le_refl _) (.cells #[.int .u64 hv.toNat] 64))
          refine (putD_any (m := [hv]) (a := 128) D8 rfl (by rw [putW_len, putW_len, HL0.out]; have := HN0.out; simp; omega) (lit_words [hv] rfl rfl (by simp))).mono ?_
          rintro e Y9 ⟨⟨u, rfl⟩, D9, -⟩
          clear c6 H7 D8
          have c6 := D9.1.b6.cell
          have H9 := Lib.hid D9; clear D9
          go_wp2_with fail
          have D9 := H9.out
          rw [HI.out.1, HI.out.2]
          refine ⟨by simp, .inl ⟨_, _, rfl, run_takeDeferred D9.2, ?_⟩⟩
          refine ⟨_, results_tmp2 rfl _ _ _, _, rfl, ?_, D9.shut.bel⟩
          have hfin : putW (putW (putW (tysP (List.replicate N 0) T T.length) 0 ws) 8 ws) 128 [hv] = imageP N T := by rw [imageP, HWS.out, HTL.out, HHV.out]
          rw [← hfin]; exact D9.shut.own
        · go_wp2_with fail
          go_big_quiet (fail)
          go_wp2
          have D1 := HD.out.below (below_drewN (Below.refl _ Y) nq)
          rw [HER.out.1, HER.out.2, if_neg h0]
          refine ⟨by simp, .inl ⟨_, _, rfl, run_takeDeferred D1.2, ?_⟩⟩
          exact ⟨_, results_tmp2 rfl _ _ _, _, rfl, OwnW.nil _ _ _, D1.shut.bel⟩
end Go.Proofs.Ytodbbacmdjcheaa
namespace Go.Proofs.Ytodbbacmdjcheaa
open Go.RowKit L02 L05 L06 L13 L14 L19 L73
set_option maxRecDepth 100000 in
set_option maxHeartbeats 2000000 in
theorem Asked_any (n : Int) (tv : Value) (T : List (List UInt8)) (r : Int) (hr : r = imgErr n T) (w : World) (h : Typs w tv T) : Calls Try.prog 18 #[.int .i64 n, tv] w fun e w' => e = .returned (.int .i64 r) ∧ w = w' := by
  subst hr
  have TL := h.len
  have HT := Lib.hid h
  obtain ⟨t, ht⟩ : ∃ t, t = T.length := ⟨_, rfl⟩
  rw [← ht] at TL
  obtain ⟨b, hb⟩ : ∃ b, b = decide (SizeOk n) := ⟨_, rfl⟩
  have ST := Lib.hid (fun w => SizeR_any n b hb w)
  by_cases hs : ¬ SizeOk n
  · rw [decide_eq_false hs] at hb
    subst hb
    have hE : imgErr n T = 2 := by rw [imgErr, if_pos hs]
    rw [hE]
    clear hs hE ht h
    go_enter Try.func18, Try.ntmps18
    go_wp2_with (go_at_call 37; refine (ST.out _).mono ?_; rintro e w' ⟨rfl, rfl⟩)
    go_ret
    exact ⟨rfl, rfl⟩
  · have hs' := Decidable.not_not.1 hs
    rw [decide_eq_true hs'] at hb
    subst hb
    by_cases h8 : 8 < T.length
    · have hE : imgErr n T = 4 := by rw [imgErr, if_neg hs, if_pos h8]
      rw [hE]
      have h8' : (8 : Int) < t := by omega
      clear hs hs' hE ht h h8
      go_enter Try.func18, Try.ntmps18
      go_wp2_with (go_at_call 37; refine (ST.out _).mono ?_; rintro e w' ⟨rfl, rfl⟩)
      go_ret
      exact ⟨rfl, rfl⟩
    · have hE : imgErr n T = errT T := by rw [imgErr, if_neg hs, if_neg h8]
      have h8' : (t : Int) ≤ 8 := by omega
      have HE := Lib.hid hE; have HTL := Lib.hid ht
      clear hs hs' hE ht h h8
      go_enter Try.func18, Try.ntmps18
      go_wp2_with (go_at_call 37; refine (ST.out _).mono ?_; rintro e w' ⟨rfl, rfl⟩)
      go_loopw [5] (fun i wr => ∃ k : Nat, k ≤ t ∧ i = .int .i64 k ∧ Hid (wr = w) ∧ Hid (∀ i l', i < k → T[i]? = some l' → kErr l' = 0)) (fun i _ => t - (intOf i).toNat)
      case atStart => exact ⟨0, Nat.zero_le _, rfl, Lib.hid rfl, Lib.hid (fun i l' hi => by omega)⟩
      case round =>
        obtain ⟨k, hk, rfl, hw, hok⟩ := hrel
        obtain rfl : wr = w := hw.out
        by_cases hlt : k < t
        · obtain ⟨ad, x, tl, hix, hcx, htl, hbx⟩ := HT.out.at_ (k := k) (by rw [← HTL.out]; exact hlt)
          have one := hbx.out.oneCell
          go_wp2_with fail
          refine (KCheckR_any x tl (kErr tl) rfl wr hbx.out).mono ?_
          rintro e w2 ⟨rfl, rfl⟩
          by_cases h0 : kErr tl = 0
          · rw [h0]
            have H0 := Lib.hid h0; clear h0
            go_wp2
            go_roundw
            case rel =>
              refine ⟨k + 1, by omega, by go_num, Lib.hid (by simp), Lib.hid fun i l' hi hl => ?_⟩
              by_cases e : i = k
              · subst e; rw [htl.out] at hl; cases hl; exact H0.out
              · exact hok.out i l' (by omega) hl
            case measure => simp [intOf]; omega
          · have hne := errT_take T k tl hok.out htl.out h0
            have HNE := Lib.hid hne; clear hne
            go_wp2
            go_ret
            exact ⟨by rw [HE.out, HNE.out]; rfl, rfl⟩
        · obtain rfl : k = t := by omega
          go_wp2
          go_ret
          exact ⟨by rw [HE.out, errT_none T (fun i l' hi hl => hok.out i l' (by rw [HTL.out]; exact hi) hl)]; rfl, rfl⟩
end Go.Proofs.Ytodbbacmdjcheaa
namespace Go.Proofs.Ytodbbacmdjcheaa.L16
open L02 L14 L15 L19
def free (L : List Hb) : List Hb := L.filter fun b => decide (b.kind = 2)
def freeL (l : List UInt64) : List Hb := free (allL l)
theorem free_mem {L : List Hb} {b : Hb} : b ∈ free L ↔ b ∈ L ∧ b.kind = 2 := by unfold free; rw [List.mem_filter]; simp
end Go.Proofs.Ytodbbacmdjcheaa.L16
namespace Go.Proofs.Ytodbbacmdjcheaa.L75
open L02 L05 L06 L07 L13 L14 L15 L16 L19 L73
theorem im0_all : allErr (imageP 256 []) = 0 ∧ freeL (imageP 256 []) = [⟨128, 128, 2, 0, false, 0⟩] ∧ (imageP 256 [])[96]? = some 0 := by decide +kernel
theorem im1_tw : rErr (imageP 256 [[3]]) = 0 ∧ sW (imageP 256 [[3]]) = 256 ∧ sT (imageP 256 [[3]]) = 1 ∧ is0 (imageP 256 [[3]]) = true ∧ is1 (imageP 256 [[3]]) = true ∧ (imageP 256 [[3]])[96]? = some (w0 [3]) ∧ (imageP 256 [[3]])[97]? = some (w1 [3]) := by decide +kernel
end Go.Proofs.Ytodbbacmdjcheaa.L75
namespace Go.Proofs.Ytodbbacmdjcheaa
open Go.RowKit L02 L05 L06
set_option maxHeartbeats 1000000 in
theorem Read6_bad (v : Value) (l : List UInt64) (w : World) (h : Words w v l) (hl : l.length ≠ 8) :
    Calls Try.prog 69 #[v] w fun e w' => e = .returned (.tuple #[supV 0 0, .int .i64 2]) ∧ Below w.heap.size w w' := by
  have l1 := Rd.len h Try.underlying25
  have hne : ((l.length : Int) != 8) = true := by simp; omega
  clear h hl
  go_enter Try.func69, Try.ntmps69
  go_wp2
  go_step3
  go_wp2
  try rw [Exit.noGoto_ret]
  refine bodyPost_ret (v := .tuple #[supV 0 0, .int .i64 2]) ?_ rfl ⟨rfl, ?_⟩
  · simp [results, Try.results69, go_sem, supV]
  · exact (Below.refl _ _).alloc (Nat.le_refl _) _
set_option maxHeartbeats 1000000 in
theorem Read6_eight (v : Value) (l : List UInt64) (w : World) (h : Words w v l) (hl : l.length = 8) :
    Calls Try.prog 69 #[v] w fun e w' => e = .returned (.tuple #[supV (rdW l) (rdT l), .int .i64 (if ReadOk l then 0 else 50)]) ∧ Below w.heap.size w w' := by
  match l, hl with
  | [x0, x1, x2, x3, x4, x5, x6, x7], _ =>
  obtain ⟨b, o, c, rfl, hb, hc, hcell⟩ := Rd.form h (by simp)
  have c0 := hcell 0 (.int .u64 x0.toNat) rfl
  have c1 := hcell 1 (.int .u64 x1.toNat) rfl
  have c2 := hcell 2 (.int .u64 x2.toNat) rfl
  have c3 := hcell 3 (.int .u64 x3.toNat) rfl
  have c4 := hcell 4 (.int .u64 x4.toNat) rfl
  have c5 := hcell 5 (.int .u64 x5.toNat) rfl
  have c6 := hcell 6 (.int .u64 x6.toNat) rfl
  have c7 := hcell 7 (.int .u64 x7.toNat) rfl
  simp only [Nat.add_zero] at c0
  clear h hcell
  go_enter Try.func69, Try.ntmps69
  go_wp2
  have ha : ∀ W, (Instr.arrayAt 125 (.slice (some ⟨b, o, none⟩) 8 c)).run Try.prog W = .ok (.pointer (some ⟨b, o, none⟩)) W := fun W => by simp [Instr.arrayAt, run_underlying Try.underlying125]
  go_step3
  go_wp2
  go_step3
  go_wp2
  obtain ⟨A, hA⟩ : ∃ A, A = (x2.toNat : Int) := ⟨_, rfl⟩
  obtain ⟨T, hT⟩ : ∃ T, T = (x3.toNat : Int) := ⟨_, rfl⟩
  have hA0 : 0 ≤ A := by omega
  have hT0 : 0 ≤ T := by omega
  rw [← hA, ← hT]
  have HA := Lib.hid hA; have HT := Lib.hid hT
  clear hA hT c0 c1 c2 c3 c4 c5 c6 c7 ha
  go_loop [6] (fun n => ∃ k : Int, 256 ≤ k ∧ k ≤ 2056 ∧ k % 8 = 0 ∧ n = .int .i64 k ∧ ¬ (256 ≤ A ∧ A < k ∧ A % 8 = 0 ∧ T ≤ 8)) (fun n => (2056 - intOf n).toNat)
  case atStart => exact ⟨256, by omega, by omega, by omega, rfl, by omega⟩
  case round =>
    obtain ⟨n, n1, n2, n3, rfl, n4⟩ := hrel
    have N3 := Lib.hid n3; have N4 := Lib.hid n4; clear n3 n4
    by_cases hlt : n ≤ 2048
    · by_cases hnA : n = A
      · subst hnA
        go_wp2
        go_loop [19] (fun t => ∃ j : Int, 0 ≤ j ∧ j ≤ 9 ∧ t = .int .i64 j ∧ ¬ T < j) (fun t => (9 - intOf t).toNat)
        case atStart => exact ⟨0, by omega, by omega, rfl, by omega⟩
        case round =>
          obtain ⟨t, t1, t2, rfl, t3⟩ := hrel
          by_cases htl : t < 9
          · by_cases htT : t = T
            · subst htT
              go_wp2
              refine wp_gen (fun W => W.heap[w.heap.size]? = some (.cells #[.int .i64 0, .int .i64 0] 80 (0, 0)) ∧ W.heap[w.heap.size + 1]? = some (.cells #[.int .i64 n, .int .i64 t] 80 (0, 0)) ∧
                W.heap[w.heap.size + 1 + 1]? = some (.cells #[.int .u64 x0.toNat, .int .u64 x1.toNat, .int .u64 n, .int .u64 t, .int .u64 x4.toNat, .int .u64 x5.toNat, .int .u64 x6.toNat, .int .u64 x7.toNat] 125 (0, 0)) ∧ Below w.heap.size w W ∧ w.heap.size + 3 ≤ W.heap.size)
                ⟨by simp only [alloc_heap, Array.getElem?_push, Array.size_push]; simp <;> omega, by simp only [alloc_heap, Array.getElem?_push, Array.size_push]; simp <;> omega, by simp only [alloc_heap, Array.getElem?_push, Array.size_push]; simp <;> omega, (((Below.refl _ w).alloc (Nat.le_refl _) _).alloc (by simp) _).alloc (by simp; omega) _, by simp⟩ ?_
              rintro w1 ⟨g0, g1, g2, B, hz⟩
              have c0 := blk_cell g0; have c1 := blk_cell g1; have c2 := blk_cell g2; have f0 := blk_free g0
              have HB := Lib.hid B; clear B
              have s0 : w1.cell? ⟨w.heap.size + 1, 0, none⟩ = some (.int .i64 n) := c1 0
              have s1 : w1.cell? ⟨w.heap.size + 1, 1, none⟩ = some (.int .i64 t) := c1 1
              have a0 : w1.cell? ⟨w.heap.size + 1 + 1, 0, none⟩ = some (.int .u64 x0.toNat) := c2 0
              have a1 : w1.cell? ⟨w.heap.size + 1 + 1, 1, none⟩ = some (.int .u64 x1.toNat) := c2 1
              have a2 : w1.cell? ⟨w.heap.size + 1 + 1, 2, none⟩ = some (.int .u64 n) := c2 2
              have a3 : w1.cell? ⟨w.heap.size + 1 + 1, 3, none⟩ = some (.int .u64 t) := c2 3
              have a4 : w1.cell? ⟨w.heap.size + 1 + 1, 4, none⟩ = some (.int .u64 x4.toNat) := c2 4
              have a5 : w1.cell? ⟨w.heap.size + 1 + 1, 5, none⟩ = some (.int .u64 x5.toNat) := c2 5
              have a6 : w1.cell? ⟨w.heap.size + 1 + 1, 6, none⟩ = some (.int .u64 x6.toNat) := c2 6
              have a7 : w1.cell? ⟨w.heap.size + 1 + 1, 7, none⟩ = some (.int .u64 x7.toNat) := c2 7
              have G0 := Lib.hid g0; have G1 := Lib.hid g1; have G2 := Lib.hid g2; have HT0 := Lib.hid t3
              have hok : SupOk n t := ⟨⟨n1, hlt, N3.out⟩, t1, by omega⟩
              have HOK := Lib.hid hok
              have hcmp := fun W => run_neq_words (P := Try.prog) (n := 8) Try.underlying125 (by kernel_rfl) Try.underlying64 (by kernel_rfl) (fun X j u W h => run_part_plain W (by kernel_rfl) h) (wordsOf n t) [x0, x1, x2, x3, x4, x5, x6, x7] rfl rfl W
              have e1 : (List.map u64 [x0, x1, x2, x3, x4, x5, x6, x7]).toArray = #[.int .u64 x0.toNat, .int .u64 x1.toNat, .int .u64 n, .int .u64 t, .int .u64 x4.toNat, .int .u64 x5.toNat, .int .u64 x6.toNat, .int .u64 x7.toNat] := by rw [HA.out, HT.out]; rfl
              rw [e1] at hcmp
              obtain ⟨V, hV⟩ : ∃ V, V = (List.map u64 (wordsOf n t)).toArray := ⟨_, rfl⟩
              rw [← hV] at hcmp
              have HV := Lib.hid hV
              have hz0 : (n == 0) = false := by rw [beq_eq_false_iff_ne]; omega
              have heql : ∀ W, (binOp .eql 80 (.agg #[.int .i64 n, .int .i64 t]) (.agg #[.int .i64 0, .int .i64 0])).run Try.prog W = .ok (.bool false) W := by
                intro W
                simp [go_sem, hz0]
              clear g0 g1 g2 c1 c2 t3 hok e1 hV hz0
              obtain ⟨dB, hdB⟩ : ∃ dB, dB = decide (wordsOf n t = [x0, x1, x2, x3, x4, x5, x6, x7]) := ⟨_, rfl⟩
              rw [← hdB] at hcmp
              have HDB := Lib.hid hdB; clear hdB
              have hat : at2 [x0, x1, x2, x3, x4, x5, x6, x7] = n ∧ at3 [x0, x1, x2, x3, x4, x5, x6, x7] = t := ⟨HA.out.symm, HT.out.symm⟩
              have HAT := Lib.hid hat; clear hat
              have k3 : ∀ (W : World), Below w1.heap.size w1 W → W.heap[w.heap.size]? = some (.cells #[.int .i64 0, .int .i64 0] 80 (0, 0)) := fun W b => blk_below G0.out b
              have K3 := Lib.hid k3; clear k3
              cases dB
              all_goals
                go_region_held3 (fun w' => w'.cell? ⟨w.heap.size + 1, 0, none⟩ = some (.int .i64 n) ∧ w'.cell? ⟨w.heap.size + 1, 1, none⟩ = some (.int .i64 t) ∧ w'.cell? ⟨w.heap.size + 1 + 1, 0, none⟩ = some (.int .u64 x0.toNat) ∧ w'.cell? ⟨w.heap.size + 1 + 1, 1, none⟩ = some (.int .u64 x1.toNat) ∧ w'.cell? ⟨w.heap.size + 1 + 1, 2, none⟩ = some (.int .u64 n) ∧ w'.cell? ⟨w.heap.size + 1 + 1, 3, none⟩ = some (.int .u64 t) ∧ w'.cell? ⟨w.heap.size + 1 + 1, 4, none⟩ = some (.int .u64 x4.toNat) ∧ w'.cell? ⟨w.heap.size + 1 + 1, 5, none⟩ = some (.int .u64 x5.toNat) ∧ w'.cell? ⟨w.heap.size + 1 + 1, 6, none⟩ = some (.int .u64 x6.toNat) ∧ w'.cell? ⟨w.heap.size + 1 + 1, 7, none⟩ = some (.int .u64 x7.toNat))
                  (first | exact ⟨s0, s1, a0, a1, a2, a3, a4, a5, a6, a7⟩ | exact ⟨(k2 _ _ (by omega)).trans s0, (k2 _ _ (by omega)).trans s1, (k2 _ _ (by omega)).trans a0, (k2 _ _ (by omega)).trans a1, (k2 _ _ (by omega)).trans a2, (k2 _ _ (by omega)).trans a3, (k2 _ _ (by omega)).trans a4, (k2 _ _ (by omega)).trans a5, (k2 _ _ (by omega)).trans a6, (k2 _ _ (by omega)).trans a7⟩)
                  (first | (go_at_call 56; refine (words_any n t _ HOK.out).mono ?_; rw [show arr8 (wordsOf n t) = .agg V by rw [HV.out]; rfl]; rintro e w2 ⟨rfl, b2⟩; have k2 : ∀ (g q : Nat), g < w1.heap.size → w2.cell? ⟨g, q, none⟩ = w1.cell? ⟨g, q, none⟩ := fun g q hg => b2.cell (p := ⟨g, q, none⟩) hg))
                have b3 := (below_drewN (Below.refl w1.heap.size w1) 1).trans b2
                have z0 := blk_cell (K3.out _ b3); have zf := blk_free (K3.out _ b3); have z1 := blk_cell (blk_below G1.out b3)
                have HB2 := Lib.hid b3
                clear k2 b2 b3
                go_wp2
                try rw [Exit.noGoto_ret]
              · have hno : ¬ ReadOk [x0, x1, x2, x3, x4, x5, x6, x7] := by
                  rintro ⟨_, h2⟩
                  rw [HAT.out.1, HAT.out.2] at h2
                  exact absurd h2.symm (of_decide_eq_false HDB.out.symm)
                refine bodyPost_ret (v := .tuple #[supV 0 0, .int .i64 50]) ?_ rfl ⟨?_, ?_⟩
                · simp [results, Try.results69, go_sem, supV, z0, zf]
                · rw [if_neg hno, (rd_no hno).1, (rd_no hno).2]
                · exact ((HB.out.trans (HB2.out.mono HB.out.size)).setCell (Nat.le_refl _) _).setCell (Nat.le_refl _) _
              · have hyes : ReadOk [x0, x1, x2, x3, x4, x5, x6, x7] := by
                  unfold ReadOk
                  rw [HAT.out.1, HAT.out.2]
                  exact ⟨HOK.out, (of_decide_eq_true HDB.out.symm).symm⟩
                refine bodyPost_ret (v := .tuple #[supV n t, .int .i64 0]) ?_ rfl ⟨?_, ?_⟩
                · simp [results, Try.results69, go_sem, supV, z0, zf]
                · rw [if_pos hyes, rdW, if_pos hyes, rdT, if_pos hyes, HAT.out.1, HAT.out.2]
                · exact ((HB.out.trans (HB2.out.mono HB.out.size)).setCell (Nat.le_refl _) _).setCell (Nat.le_refl _) _
            · have hne : (t == T) = false := by rw [beq_eq_false_iff_ne]; exact htT
              go_wp2
              go_round
              case rel => exact ⟨t + 1, by omega, by omega, rfl, by omega⟩
              case measure => simp [intOf]; omega
          · go_wp2
            go_round
            case rel => exact ⟨n + 8, by omega, by omega, by have := N3.out; omega, rfl, by omega⟩
            case measure => simp [intOf]; omega
      · have hne : (n == A) = false := by rw [beq_eq_false_iff_ne]; exact hnA
        go_wp2
        go_loop [19] (fun t => ∃ j : Int, 0 ≤ j ∧ j ≤ 9 ∧ t = .int .i64 j) (fun t => (9 - intOf t).toNat)
        case atStart => exact ⟨0, by omega, by omega, rfl⟩
        case round =>
          obtain ⟨t, t1, t2, rfl⟩ := hrel
          by_cases htl : t < 9
          · go_wp2
            go_round
            case rel => exact ⟨t + 1, by omega, by omega, rfl⟩
            case measure => simp [intOf]; omega
          · go_wp2
            go_round
            case rel => exact ⟨n + 8, by omega, by omega, by have := N3.out; omega, rfl, by have := N3.out; have := N4.out; omega⟩
            case measure => simp [intOf]; omega
    · go_wp2
      refine wp_gen (fun W => W.heap[w.heap.size]? = some (.cells #[.int .i64 0, .int .i64 0] 80 (0, 0)) ∧ W.heap[w.heap.size + 1]? = some (.cells #[.int .i64 0, .int .i64 0] 80 (0, 0)) ∧
        W.heap[w.heap.size + 1 + 1]? = some (.cells #[.int .u64 x0.toNat, .int .u64 x1.toNat, .int .u64 A, .int .u64 T, .int .u64 x4.toNat, .int .u64 x5.toNat, .int .u64 x6.toNat, .int .u64 x7.toNat] 125 (0, 0)) ∧ Below w.heap.size w W ∧ w.heap.size + 3 ≤ W.heap.size)
        ⟨by simp only [alloc_heap, Array.getElem?_push, Array.size_push]; simp <;> omega, by simp only [alloc_heap, Array.getElem?_push, Array.size_push]; simp <;> omega, by simp only [alloc_heap, Array.getElem?_push, Array.size_push]; simp <;> omega, (((Below.refl _ w).alloc (Nat.le_refl _) _).alloc (by simp) _).alloc (by simp; omega) _, by simp⟩ ?_
      rintro w1 ⟨g0, g1, g2, B, hz⟩
      have c0 := blk_cell g0; have c1 := blk_cell g1; have c2 := blk_cell g2; have f0 := blk_free g0
      have HB := Lib.hid B; clear B
      have G0 := Lib.hid g0; clear g0 g1 g2
      go_big_quiet (fail)
      go_wp2
      try rw [Exit.noGoto_ret]
      have hno : ¬ ReadOk [x0, x1, x2, x3, x4, x5, x6, x7] := by
        rintro ⟨⟨⟨h1, h2, h3⟩, h4, h5⟩, _⟩
        have h6 : at2 [x0, x1, x2, x3, x4, x5, x6, x7] = A := HA.out.symm
        have h7 : at3 [x0, x1, x2, x3, x4, x5, x6, x7] = T := HT.out.symm
        rw [h6] at h1 h2 h3
        rw [h7] at h4 h5
        exact N4.out ⟨h1, by omega, h3, h5⟩
      refine bodyPost_ret (v := .tuple #[supV 0 0, .int .i64 50]) ?_ rfl ⟨?_, ?_⟩
      · simp [results, Try.results69, go_sem, supV, c0, f0]
      · rw [if_neg hno, (rd_no hno).1, (rd_no hno).2]
      · exact ((below_drewN HB.out _).setCell (Nat.le_refl _) _).setCell (Nat.le_refl _) _
theorem Read6_any (v : Value) (l : List UInt64) (w : World) (h : Words w v l) :
    Calls Try.prog 69 #[v] w fun e w' => e = .returned (.tuple #[supV (rdW l) (rdT l), .int .i64 (rdErr l)]) ∧ Below w.heap.size w w' := by
  by_cases hl : l.length = 8
  · rw [rdErr, if_pos hl]; exact Read6_eight v l w h hl
  · have hno : ¬ ReadOk l := fun hr => hl (readOk_len hr)
    rw [rdErr, if_neg hl, (rd_no hno).1, (rd_no hno).2]; exact Read6_bad v l w h hl
end Go.Proofs.Ytodbbacmdjcheaa
namespace Go.Proofs.Ytodbbacmdjcheaa
open Go.RowKit L02 L05 L06
end Go.Proofs.Ytodbbacmdjcheaa
namespace Go.Proofs.Ytodbbacmdjcheaa
open Go Go.RowKit
section
variable {P : Program} {ops : Array Oper} {md : Region.Mode} {C : Array Bool → World → Prop}
def uponF (P : Program) (Post : World → Prop) (v : Value) : Result Next → Prop
  | .ok (.value u) w' => u = v ∧ Post w'
  | .ok .skip w' => v = undef ∧ Post w'
  | .ok (.enter f args) w' => Calls P f args w' (fun e w'' => e = .returned v ∧ Post w'')
  | _ => False
def YieldsF (P : Program) (md : Region.Mode) (ops : Array Oper) (C : Array Bool → World → Prop) (i : Nat) (o : Oper) (v : Value) (a : Act) : Prop :=
  (Region.wanted o (yielded ops a.tmps) = true ∧ ∀ listed w, i ∈ Region.ready md ops listed → C listed w → uponF P (C (listed.setIfInBounds i true)) v ((execOp a.eval o).run P w)) ∨
  (Region.wanted o (yielded ops a.tmps) = false ∧ v = undef ∧ ∀ listed w, i ∈ Region.ready md ops listed → C listed w → C (listed.setIfInBounds i true) w)
def qOpF (P : Program) (md : Region.Mode) (ops : Array Oper) (C : Array Bool → World → Prop) (i : Nat) (K : Act → Prop) (a : Act) : Prop :=
  match ops[i]? with
  | none => False
  | some o => ∃ v, YieldsF P md ops C i o v a ∧ K (a.put o.dst v)
theorem qOpF_mono {i : Nat} {a : Act} {K K' : Act → Prop} (h : ∀ a, K a → K' a) (hh : qOpF P md ops C i K a) : qOpF P md ops C i K' a := by
  unfold qOpF at *
  split
  · rename_i ho; simp only [ho] at hh
  · rename_i o ho
    simp only [ho] at hh
    obtain ⟨v, h1, h2⟩ := hh
    exact ⟨v, h1, h _ h2⟩
def wpAnyF (P : Program) (md : Region.Mode) (ops : Array Oper) (C : Array Bool → World → Prop) (Q : Array Bool → Act → Prop) : Nat → Array Bool → Act → Prop
  | 0, listed, a => Region.ready md ops listed = [] ∧ Q listed a
  | fuel + 1, listed, a =>
    (Region.ready md ops listed = [] → Q listed a) ∧
    ∀ i ∈ Region.ready md ops listed, qOpF P md ops C i (wpAnyF P md ops C Q fuel (listed.setIfInBounds i true)) a
theorem wpOp_of_qOpF {i : Nat} {a : Act} {listed : Array Bool} {K : Act → Prop} {K' : Act → World → Prop} {Q' : Exit → Act → World → Prop} {w : World} (hl : i ∈ Region.ready md ops listed) (hC : C listed w)
    (h : ∀ a w', C (listed.setIfInBounds i true) w' → K a → K' a w') (hh : qOpF P md ops C i K a) : wpOp P ops Q' i K' a w := by
  unfold qOpF at hh
  unfold wpOp
  split
  · rename_i ho; simp only [ho] at hh
  · rename_i o ho
    simp only [ho] at hh
    obtain ⟨v, hy, h2⟩ := hh
    rcases hy with ⟨hw, hv⟩ | ⟨hw, rfl, hv⟩
    · rw [if_pos hw]
      left
      have h3 := hv listed w hl hC
      unfold Oper.wp
      generalize (execOp a.eval o).run P w = r at *
      cases r with
      | ok n w' =>
        cases n <;> simp only [uponF] at h3 <;> simp only [Oper.upon]
        case value u => obtain ⟨e1, e2⟩ := h3; rw [e1]; exact h _ _ e2 h2
        case skip => obtain ⟨e1, e2⟩ := h3; rw [← e1]; exact h _ _ e2 h2
        case enter f args => exact h3.mono fun e w'' ⟨he, hw''⟩ => by subst he; exact h _ _ hw'' h2
      | halt x w' => simp only [uponF] at h3
    · rw [if_neg (by rw [hw]; exact Bool.false_ne_true)]
      exact h _ _ (hv listed w hl hC) h2
theorem wpAny_of_F {Q : Array Bool → Act → Prop} {Q' : Exit → Act → World → Prop} (hQ : ∀ listed a w, C listed w → Q listed a → Q' .normal a w) : ∀ (fuel : Nat) (listed : Array Bool) (a : Act) (w : World), C listed w →
    wpAnyF P md ops C Q fuel listed a → wpAny P md ops Q' fuel listed a w
  | 0, _, _, _, hw, h => ⟨h.1, hQ _ _ _ hw h.2⟩
  | fuel + 1, listed, _, _, hw, h => ⟨fun h0 => hQ _ _ _ hw (h.1 h0), fun i hi => wpOp_of_qOpF hi hw (fun a' w' hw' => wpAny_of_F hQ fuel _ a' w' hw') (h.2 i hi)⟩
theorem YieldsF.of_same {i : Nat} {o : Oper} {v : Value} {a a' : Act} (hy : YieldsF P md ops C i o v a) (he : execOp a'.eval o = execOp a.eval o)
    (hw : Region.wanted o (yielded ops a'.tmps) = Region.wanted o (yielded ops a.tmps)) : YieldsF P md ops C i o v a' := by
  unfold YieldsF at *
  rw [he, hw]
  exact hy
theorem qOpF_put {i j : Nat} {oi oj : Oper} {v : Value} (hj : ops[j]? = some oj) (hap : oi.apart ops oj = true)
    (hsi : ∀ cs b, oi.op ≠ .select cs b) (hsj : ∀ cs b, oj.op ≠ .select cs b) {K : Act → Prop} {a : Act}
    (hy : YieldsF P md ops C i oi v a) (h : qOpF P md ops C j K (a.put oi.dst v)) :
    qOpF P md ops C j (fun a' => YieldsF P md ops C i oi v a' ∧ K (a'.put oi.dst v)) a := by
  obtain ⟨h1, h2, h3⟩ := Oper.apart_spec hap
  unfold qOpF at *
  simp only [hj] at *
  obtain ⟨u, hu, hn⟩ := h
  refine ⟨u, hu.of_same ?_ ?_, hy.of_same ?_ ?_, ?_⟩
  · exact (execOp_put oj hsj a oi.dst v h1).symm
  · exact (wanted_put oj a oi.dst v h1).symm
  · exact execOp_put oi hsi a oj.dst u h3
  · exact wanted_put oi a oj.dst u h3
  · rw [← Act.put_comm a v u h2]; exact hn
theorem wpAnyF_first {Q : Array Bool → Act → Prop} {i : Nat} {oi : Oper} {v : Value} (hi : ops[i]? = some oi) (hsel : ∀ (j : Nat) (o : Oper) cs b, ops[j]? = some o → o.op ≠ .select cs b) :
    ∀ (fuel : Nat) (listed : Array Bool) (a : Act),
      (∀ j oj, ops[j]? = some oj → j ≠ i → listed.getD j true = false → (∀ e ∈ oj.after, Region.binds md e = true → e.on ≠ i) → oi.apart ops oj = true) →
      i ∈ Region.ready md ops listed → YieldsF P md ops C i oi v a →
      wpAnyF P md ops C Q fuel (listed.setIfInBounds i true) (a.put oi.dst v) → wpAnyF P md ops C Q (fuel + 1) listed a := by
  intro fuel
  induction fuel with
  | zero =>
    intro listed a _ hr hy H
    refine ⟨fun h => (by rw [h] at hr; cases hr), fun j hj => ?_⟩
    by_cases hji : j = i
    · subst hji
      unfold qOpF; simp only [hi]
      exact ⟨v, hy, H⟩
    · have := ready_mono hj hji
      rw [H.1] at this
      cases this
  | succ fuel ih =>
    intro listed a hfree hr hy H
    refine ⟨fun h => (by rw [h] at hr; cases hr), fun j hj => ?_⟩
    by_cases hji : j = i
    · subst hji
      unfold qOpF; simp only [hi]
      exact ⟨v, hy, H⟩
    · have h1 := H.2 j (ready_mono hj hji)
      obtain ⟨hjun, oj, hoj, hall⟩ := mem_ready.1 hj
      have hnot : ∀ e ∈ oj.after, Region.binds md e = true → e.on ≠ i := fun e he hb heq => by
        have h1 := hall e he hb
        have h0 := (mem_ready.1 hr).1
        rw [heq] at h1
        rcases Nat.lt_or_ge i listed.size with h' | h'
        · simp [h'] at h0 h1; rw [h0] at h1; cases h1
        · simp [Array.getElem?_eq_none h'] at h1
      have h2 := qOpF_put hoj (hfree j oj hoj hji hjun hnot) (fun cs b => hsel i oi cs b hi) (fun cs b => hsel j oj cs b hoj) hy h1
      have hfree' : ∀ k ok, ops[k]? = some ok → k ≠ i → (listed.setIfInBounds j true).getD k true = false →
          (∀ e ∈ ok.after, Region.binds md e = true → e.on ≠ i) → oi.apart ops ok = true := fun k ok hk hki hun hno => by
        refine hfree k ok hk hki ?_ hno
        by_cases hjk : j = k
        · subst hjk; exact hjun
        · rw [getD_set_ne true hjk] at hun; exact hun
      refine qOpF_mono (fun a' h3 => ih (listed.setIfInBounds j true) a' hfree' (ready_mono hr (Ne.symm hji)) h3.1 ?_) h2
      rw [Array.setIfInBounds_comm _ _ hji]
      exact h3.2
/-- the walk in the order of the text, number k first -/
def wpF (P : Program) (md : Region.Mode) (ops : Array Oper) (C : Array Bool → World → Prop) (Q : Act → Prop) : List Oper → Nat → Act → Prop
  | [], _, a => Q a
  | o :: rest, k, a => ∃ v, YieldsF P md ops C k o v a ∧ wpF P md ops C Q rest (k + 1) (a.put o.dst v)
def setAll : Nat → Nat → Array Bool → Array Bool
  | 0, _, l => l
  | n + 1, k, l => setAll n (k + 1) (l.setIfInBounds k true)
theorem wpAnyF_lex {Q : Array Bool → Act → Prop} (hs : Region.noSelect ops = true) : ∀ (l : List Oper) (k : Nat) (listed : Array Bool) (a : Act), (∀ j, l[j]? = ops[k + j]?) →
    Region.lexFrom md ops l.length k listed = true → wpF P md ops C (Q (setAll l.length k listed)) l k a → wpAnyF P md ops C Q l.length listed a
  | [], _, _, _, _, hB, h => ⟨by simpa [Region.lexFrom] using hB, h⟩
  | o :: l, k, listed, a, hl, hB, h => by
    have h0 : ops[k]? = some o := by simpa using (hl 0).symm
    simp only [List.length_cons, Region.lexFrom, Bool.and_eq_true] at hB
    obtain ⟨⟨hr, hf⟩, hB'⟩ := hB
    obtain ⟨v, hy, hK⟩ := h
    exact wpAnyF_first h0 (Region.noSelect_spec hs) l.length listed a (Region.free_spec h0 hf) (by simpa using hr) hy
      (wpAnyF_lex hs l (k + 1) _ _ (fun j => by have := hl (j + 1); simpa [Nat.add_assoc, Nat.add_comm 1 j] using this) hB' hK)
theorem wp_region_F {id : Nat} {Q : Exit → Act → World → Prop} {a : Act} {w : World} {l : List Oper} (C : Array Bool → World → Prop) (hm : P.follows .mixedOrders = true) (hB : Region.lexB .any l.toArray = true)
    (hC : C (Array.replicate l.length false) { w with drawn := w.drawn + 1 })
    (h : wpF P .any l.toArray C (fun a' => ∀ w', C (setAll l.length 0 (Array.replicate l.length false)) w' → Q .normal a' w') l 0 a) : (Code.region id l.toArray true).wp P Q a w := by
  simp only [Region.lexB, Bool.and_eq_true] at hB
  refine wp_region_any hm (wpAny_of_F (C := C) (Q := fun listed a' => ∀ w', C listed w' → Q .normal a' w') (fun _ _ w' hw' h => h w' hw') _ _ _ _ (by simpa using hC) ?_)
  have := wpAnyF_lex (C := C) (md := .any) (Q := fun listed a' => ∀ w', C listed w' → Q .normal a' w') hB.1 l 0 (Array.replicate l.length false) a (by simp) (by simpa using hB.2) h
  simpa using this
end
/-! two flagged operations, numbers j1, j2 (a number that no operation bears: none) -/
/-- the operations that yield a value without entering a function -/
def isV : Op → Bool
  | .move _ | .assign _ | .pick .. | .build .. | .load .. | .binOp .. | .unOp .. | .convert .. | .slice .. | .fieldAddr .. | .field .. | .indexAddr .. | .index .. | .extract .. | .sliceToArrayPointer .. => true
  | _ => false
theorem run_v {P : Program} {s : Sem Value} {w w' : World} {n : Next} (h : (do pure (Next.value (← s)) : Sem Next).run P w = .ok n w') : ∃ u, n = .value u := by
  rw [Sem.run_bind] at h
  cases hs : s.run P w with
  | ok u w1 => rw [hs] at h; simp [Result.andThen] at h; exact ⟨u, h.1.symm⟩
  | halt x w1 => rw [hs] at h; simp [Result.andThen] at h
theorem isV_value {P : Program} {o : Oper} {ev : Operand → Value} {w w' : World} {n : Next} (hV : isV o.op = true) (h : (execOp ev o).run P w = .ok n w') : ∃ u, n = .value u := by
  unfold execOp at h
  cases ho : o.op <;> rw [ho] at h hV <;> simp only [isV, Bool.false_eq_true] at hV <;> dsimp only at h
  case move x => simp at h; exact ⟨_, h.1.symm⟩
  case assign x => simp at h; exact ⟨_, h.1.symm⟩
  case pick c x y =>
    rw [Sem.run_bind] at h
    cases hs : (asBool (ev c)).run P w with
    | ok u w1 => rw [hs] at h; simp [Result.andThen] at h; exact ⟨_, h.1.symm⟩
    | halt x w1 => rw [hs] at h; simp [Result.andThen] at h
  all_goals exact run_v h
structure FX (F : Bool → Bool → World → Prop) where
  W : World
  h : ∃ b1 b2, F b1 b2 W
section
variable {P : Program} {ops : Array Oper} {rest : List Oper} {o : Oper} {a : Act} {Q : Act → Prop} {F : Bool → Bool → World → Prop} {j1 j2 k : Nat} {md : Region.Mode}
theorem ready_after {i j : Nat} {oi : Oper} {listed : Array Bool} (hi : ops[i]? = some oi) (hd : (oi.after.any fun e => Region.binds md e && e.on == j) = true) (hr : i ∈ Region.ready md ops listed) : listed.getD j false = true := by
  obtain ⟨_, o', ho', hall⟩ := mem_ready.1 hr
  have : o' = oi := Option.some.inj (ho'.symm.trans hi)
  subst this
  obtain ⟨e, he, hb⟩ := Array.any_eq_true'.1 hd
  simp only [Bool.and_eq_true, beq_iff_eq] at hb
  rw [← hb.2]; exact hall e he hb.1
structure FX1 (F : Bool → Bool → World → Prop) where
  W : World
  h : ∃ b2, F true b2 W
theorem getD_on {listed : Array Bool} {i : Nat} (h : listed.getD i true = false) : listed.getD i false = false ∧ (listed.setIfInBounds i true).getD i false = true := by
  rcases Nat.lt_or_ge i listed.size with h' | h'
  · simp [h'] at h ⊢; exact h
  · simp [Array.getElem?_eq_none h'] at h
end
/-- the flagged operation is a call that makes just one block -/
def FNew (w0 : World) (t : TypeId) (cs : Array Value) : Bool → Bool → World → Prop := fun b1 _ W => Below w0.heap.size w0 W ∧ (b1 = false → W.heap.size = w0.heap.size) ∧ (b1 = true → Bx W w0.heap.size t cs)
theorem FNew.start (w0 : World) (t : TypeId) (cs : Array Value) : FNew w0 t cs false false w0.drew := ⟨(Below.refl _ _).drew, fun _ => rfl, (fun h => by cases h)⟩
theorem FNew.below {w0 : World} {t : TypeId} {cs : Array Value} (x : FX (FNew w0 t cs)) : Below w0.heap.size w0 x.W := by obtain ⟨W, b1, b2, h⟩ := x; exact h.1
instance (w0 : World) (t : TypeId) (cs : Array Value) : Nonempty (FX (FNew w0 t cs)) := ⟨⟨w0.drew, false, false, FNew.start w0 t cs⟩⟩
instance (w0 : World) (t : TypeId) (cs : Array Value) : Nonempty (FX1 (FNew w0 t cs)) := ⟨⟨w0.alloc (.cells cs t), false, (Below.refl _ _).alloc (Nat.le_refl _) _, (fun h => by cases h), fun _ => Bx.new _ _ _⟩⟩
theorem FNew.call {P : Program} {f : FuncId} {av : Array Value} {w0 : World} {t : TypeId} {cs : Array Value} {n c : Nat}
    (h : ∀ W, Calls P f av W (fun e w' => e = .returned (.slice (some ⟨W.heap.size, 0, none⟩) n c) ∧ Bx w' W.heap.size t cs ∧ Below W.heap.size W w')) (b2 : Bool) (W : World) (hW : FNew w0 t cs false b2 W) :
    Calls P f av W (fun e W' => e = .returned (.slice (some ⟨w0.heap.size, 0, none⟩) n c) ∧ FNew w0 t cs true b2 W') := by
  have hz := hW.2.1 rfl
  refine (h W).mono fun e w' ⟨h1, h2, h3⟩ => ?_
  rw [hz] at h1 h2
  exact ⟨h1, hW.1.trans (h3.mono (by rw [hz]; exact Nat.le_refl _)), (fun h => by cases h), fun _ => h2⟩
end Go.Proofs.Ytodbbacmdjcheaa
namespace Go.Proofs.Ytodbbacmdjcheaa
open Go Go.RowKit
def CN (F : (Nat → Bool) → World → Prop) : Array Bool → World → Prop := fun listed W => F (fun j => listed.getD j false) W
def Dep (F : (Nat → Bool) → World → Prop) (js : List Nat) : Prop := ∀ f g W, (∀ j ∈ js, f j = g j) → F f W → F g W
structure FXN (F : (Nat → Bool) → World → Prop) where
  W : World
  h : ∃ f, F f W
section
variable {P : Program} {ops : Array Oper} {rest : List Oper} {o : Oper} {a : Act} {Q : Act → Prop} {F : (Nat → Bool) → World → Prop} {js : List Nat} {k : Nat} {md : Region.Mode}
theorem CN.skip (hD : Dep F js) (hk : k ∉ js) {listed : Array Bool} {W : World} (hW : CN F listed W) : CN F (listed.setIfInBounds k true) W := by
  refine hD _ _ _ (fun j hj => ?_) hW
  have hne : k ≠ j := fun e => hk (e ▸ hj)
  rw [getD_set_ne false hne]
theorem wpN_read (hD : Dep F js) (hV : isV o.op = true) (hk : k ∉ js) (h : wpQuiet P ops (fun W => ∃ x : FXN F, W = x.W) (fun a' => wpF P md ops (CN F) Q rest (k + 1) a') [o] a) : wpF P md ops (CN F) Q (o :: rest) k a := by
  unfold wpQuiet at h
  split at h
  · rename_i hw
    obtain ⟨v, h1, h2⟩ := h
    refine ⟨v, .inl ⟨hw, fun listed W hl hW => ?_⟩, h2⟩
    have h3 := h1 W ⟨⟨W, _, hW⟩, rfl⟩
    unfold Oper.quietAt at h3
    cases hr : (execOp a.eval o).run P W with
    | ok n w' =>
      obtain ⟨u, rfl⟩ := isV_value hV hr
      rw [hr] at h3
      simp only [Oper.quietUpon] at h3
      simp only [uponF]
      obtain ⟨e1, e2⟩ := h3
      subst e1
      exact ⟨e2, hW.skip hD hk⟩
    | halt x w' => rw [hr] at h3; simp only [Oper.quietUpon] at h3
  · rename_i hw
    exact ⟨undef, .inr ⟨by simpa using hw, rfl, fun listed W hl hW => hW.skip hD hk⟩, h⟩
theorem wpN_store (hD : Dep F js) (ty : TypeId) (x y : Operand) (ho : o.op = .store ty x y) (hw : Region.wanted o (yielded ops a.tmps) = true) {p u : Value} (hx : a.eval x = p) (hy : a.eval y = u)
    (hs : ∀ f W, F f W → ∃ W', (Instr.storeAt ty p u).run P W = .ok () W' ∧ F (fun i => i == k || f i) W') (h : wpF P md ops (CN F) Q rest (k + 1) (a.put o.dst undef)) : wpF P md ops (CN F) Q (o :: rest) k a := by
  refine ⟨undef, .inl ⟨hw, fun listed W hl hW => ?_⟩, h⟩
  obtain ⟨W', h1, h2⟩ := hs _ W hW
  unfold execOp
  simp only [ho, hx, hy, Sem.run_bind, h1, Result.andThen_ok, Sem.run_pure, uponF, true_and]
  refine hD _ _ _ (fun j hj => ?_) h2
  by_cases hjk : j = k
  · subst hjk
    rw [(getD_on (mem_ready.1 hl).1).2]; simp
  · have hne : k ≠ j := Ne.symm hjk
    rw [getD_set_ne false hne]; simp [hjk]
end
theorem wp_region_N {P : Program} {id : Nat} {Q : Exit → Act → World → Prop} {a : Act} {w : World} {l : List Oper} (F : (Nat → Bool) → World → Prop) (js : List Nat) (hD : Dep F js) (hm : P.follows .mixedOrders = true) (hB : Region.lexB .any l.toArray = true)
    (hf : (js.all fun j => (setAll l.length 0 (Array.replicate l.length false)).getD j false) = true)
    (hC : F (fun _ => false) w.drew)
    (h : wpF P .any l.toArray (CN F) (fun a' => ∀ w', F (fun _ => true) w' → Q .normal a' w') l 0 a) : (Code.region id l.toArray true).wp P Q a w := by
  have e : ∀ j, (Array.replicate l.length false).getD j false = false := fun j => getD_replicate_false _ _
  refine wp_region_F (CN F) hm hB ?_ ?_
  · exact hD _ _ _ (fun j _ => (e j).symm) hC
  · have e2 : ∀ w', CN F (setAll l.length 0 (Array.replicate l.length false)) w' → F (fun _ => true) w' := fun w' h' => hD _ _ _ (fun j hj => by simpa using List.all_eq_true.1 hf j hj) h'
    have mono : ∀ (r : List Oper) (k : Nat) (a' : Act), wpF P .any l.toArray (CN F) (fun a' => ∀ w', F (fun _ => true) w' → Q .normal a' w') r k a' → wpF P .any l.toArray (CN F) (fun a' => ∀ w', CN F (setAll l.length 0 (Array.replicate l.length false)) w' → Q .normal a' w') r k a' := by
      intro r
      induction r with
      | nil => intro k a' h0 w' h'; exact h0 w' (e2 w' h')
      | cons o r ih => intro k a' h0; obtain ⟨v, h1, h2⟩ := h0; exact ⟨v, h1, ih _ _ h2⟩
    exact mono l 0 a h
end Go.Proofs.Ytodbbacmdjcheaa
