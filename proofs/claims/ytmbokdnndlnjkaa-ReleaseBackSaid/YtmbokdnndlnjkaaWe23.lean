/- The walk of the law ReleaseBack. -/
import Derived.Test.YtmbokdnndlnjkaaMAw
set_option linter.unusedVariables false
set_option linter.unusedSimpArgs false
namespace Go.Proofs.Ytmbokdnndlnjkaa
open Go.RowKit L01 L02 L05 L06 L07 L13 L14 L15 L16 L18 L19 L20

set_option maxRecDepth 100000 in
set_option maxHeartbeats 16000000 in
theorem ReleaseBack_walk (v0 : Value) (l : List UInt64) (ti : Int) (w : World) (h0 : Words w v0 l) (_f1 : -9223372036854775808 ≤ ti ∧ ti ≤ 9223372036854775807) :
    Calls Try.prog 8 #[v0, .int .i64 ti] w fun e w' => e = .returned (.bool true) ∧ Below w.heap.size w w' := by
  have B : Below w.heap.size w w := Below.refl _ _
  have H := Lib.hid h0; clear h0 _f1
  have AL := Lib.hid alive23_any
  have G := Lib.hid (fun w h => Great_any v0 l w h)
  obtain ⟨gr, hgr⟩ : ∃ g, g = decide (2100 < l.length) := ⟨_, rfl⟩
  have HGR := Lib.hid hgr
  rw [← hgr] at G
  clear hgr
  cases gr
  case true =>
    go_enter Try.func8, Try.ntmps8
    go_wp2_with fail
    refine (AL.out _).mono ?_
    rintro e wa1 ⟨rfl, b⟩
    replace B := B.trans (b.mono B.size); clear b
    go_wp2_with fail
    refine (G.out _ (H.out.below B)).mono ?_
    rintro e w2 ⟨rfl, rfl⟩
    go_wp2
    go_ret
    exact ⟨rfl, B⟩
  case false =>
    have hln : l.length ≤ 2100 := by have := HGR.out; simp at this; omega
    obtain ⟨c9, hc⟩ : ∃ v, v = chk19 l := ⟨_, rfl⟩
    have CK := Lib.hid (fun w h => Check19_any v0 l c9 hc w h)
    by_cases h0 : c9 = 0
    case neg =>
      have n1 : (c9 != 0) = true := by rw [bne_iff_ne]; exact h0
      clear hc h0 hln
      go_enter Try.func8, Try.ntmps8
      go_wp2_with fail
      refine (AL.out _).mono ?_
      rintro e wa1 ⟨rfl, b⟩
      replace B := B.trans (b.mono B.size); clear b
      go_wp2_with fail
      refine (G.out _ (H.out.below B)).mono ?_
      rintro e w2 ⟨rfl, rfl⟩
      go_wp2_with fail
      refine (CK.out _ (H.out.below B)).mono ?_
      rintro e wa2 ⟨rfl, b⟩
      replace B := B.trans (b.mono B.size); clear b
      go_wp2
      go_ret
      exact ⟨rfl, B⟩
    case pos =>
      subst h0
      have rt : Rt l := Rt.of hc.symm
      obtain ⟨E, hE⟩ : ∃ x, x = aiL l ti := ⟨_, rfl⟩
      obtain ⟨s1, hs1⟩ : ∃ x, x = aiS l ti := ⟨_, rfl⟩
      obtain ⟨s2, hs2⟩ : ∃ x, x = aiG l ti := ⟨_, rfl⟩
      obtain ⟨r, hr⟩ : ∃ x, x = aiE l ti := ⟨_, rfl⟩
      have CH := Lib.hid (fun w h => Change_any v0 l ti E s1 s2 r hE hs1 hs2 hr w h)
      by_cases hr0 : r = 0
      case neg =>
        have n1 : (r != 0) = true := by rw [bne_iff_ne]; exact hr0
        clear hc rt hE hs1 hs2 hr hr0 hln
        go_enter Try.func8, Try.ntmps8
        go_wp2_with fail
        refine (AL.out _).mono ?_
        rintro e wa1 ⟨rfl, b⟩
        replace B := B.trans (b.mono B.size); clear b
        go_wp2_with fail
        refine (G.out _ (H.out.below B)).mono ?_
        rintro e w2 ⟨rfl, rfl⟩
        go_wp2_with fail
        refine (CK.out _ (H.out.below B)).mono ?_
        rintro e wa2 ⟨rfl, b⟩
        replace B := B.trans (b.mono B.size); clear b
        go_wp2_with fail
        refine (CH.out _ (H.out.below B)).mono ?_
        rintro e wa3 ⟨y, rfl, o1, b⟩
        replace B := B.trans (b.mono B.size); clear b
        have q1 := o1.rd
        clear o1
        go_upto_region 5 with (fail)
        refine wp_gen (fun Wv => Bx Wv (wa3.heap.size) (35) (#[.int .i64 s1, .int .i64 s2]) ∧ Below wa3.heap.size wa3 Wv) ⟨((Bx.at_ (by simp))), ((Below.refl _ wa3).alloc (by simp <;> omega) _)⟩ ?_
        rintro wa4 ⟨g1, b⟩
        replace q1 := q1.below b; replace B := B.trans (b.mono B.size); clear b
        have c_g1 := g1.cell; have f_g1 := g1.free; have a_g1 := fun o => (g1.alloc o).cell; have d_g1 := fun o o2 => ((g1.alloc o).alloc o2).cell; have e_g1 := fun o => (g1.alloc o).free
        go_wp2
        go_ret
        exact ⟨rfl, B⟩
      case pos =>
        subst hr0
        obtain ⟨q, k, p, n, c, g0, b, t, PP, SS, rfl, al⟩ := Al.of hr.symm
        obtain ⟨l', hl'⟩ : ∃ x, x = made l (aiL l q) := ⟨_, rfl⟩
        rw [← hl'] at al
        obtain rfl : s1 = (k : Int) := by rw [hs1, al.hS]
        obtain rfl : s2 = g0 + 1 := by rw [hs2, al.hG]
        have hlE : made l E = l' := by rw [hE, hl']
        have ac := al.hc; have an := al.hn2; have ap := al.hp; have ak := al.hk; have ag := al.hg
        have all' := al.len
        obtain ⟨ar1, ar2⟩ := al.res
        obtain ⟨_, _, _, rt', _⟩ := al.after
        obtain ⟨Y, hY⟩ : ∃ y, y = made l' (fiL l' k (g0 + 1)) := ⟨_, rfl⟩
        obtain ⟨rtY, hYl, hYn, hYf, hYb⟩ := al.back Y hY
        obtain ⟨F9, hF9⟩ : ∃ E, E = fiL l' k (g0 + 1) := ⟨_, rfl⟩
        obtain ⟨LA, hLA⟩ : ∃ L, L = allL l := ⟨_, rfl⟩
        obtain ⟨LY, hLY⟩ : ∃ L, L = allL Y := ⟨_, rfl⟩
        obtain ⟨NA, hNA⟩ : ∃ N, N = LA.length := ⟨_, rfl⟩
        have MK := Lib.hid (fun ev w h he => Made_any v0 ev l E (by omega) w h he)
        rw [hlE] at MK
        have FR := Lib.hid (fun v w h => Free23_any v l' k (g0 + 1) F9 0 hF9 al.idle.symm w h)
        have MY := Lib.hid (fun v ev w h he => Made_any v ev l' F9 (by omega) w h he)
        rw [hF9, ← hY, ← hF9] at MY
        have AW := Lib.hid (fun w h => AllW_any v0 l LA 0 hLA rt.al.symm w h)
        have AY := Lib.hid (fun v w h => AllW_any v Y LY 0 hLY rtY.al.symm w h)
        have CY := Lib.hid (fun v w h => Check19_any v Y 0 rtY.chk.symm w h)
        rw [← hLA, ← hLY, ← hNA] at hYn
        rw [← hLA, ← hLY] at hYb
        have HLN := Lib.hid hYn
        have HNA := Lib.hid hNA
        have HBK := Lib.hid hYb
        have HFR := Lib.hid hYf
        have HYL := Lib.hid hYl
        have hNA9 : NA ≤ 960 := by rw [hNA, hLA]; exact all_len rt.al
        have hl256 := rt.sz.1
        have HRG := Lib.hid (show ∀ d ∈ LA, (∃ a : Nat, d.at_ = a) ∧ (∃ s : Nat, d.size = s) ∧ 128 ≤ d.at_.toNat ∧ 2 ≤ d.size.toNat ∧ d.at_.toNat + d.size.toNat ≤ l.length from fun d hd => by
          rw [hLA] at hd
          obtain ⟨a, a1, a2, a3, a4, a5⟩ := all_mem rt.al hd
          have e1 : d.at_ = a := by rw [a4]; rfl
          have e2 : d.size = szN l a := by rw [a4]; exact stand_size a3
          have := szN_ge a3
          exact ⟨⟨a, e1⟩, ⟨_, e2⟩, by omega, by omega, by omega⟩)
        have HKD := Lib.hid (show ∀ d ∈ LA, d.kind = 1 ∨ d.kind = 2 from fun d hd => by
          rw [hLA] at hd
          obtain ⟨a, a1, a2, a3, a4, a5⟩ := all_mem rt.al hd
          have h9 : BkOk d := by rw [a4]; exact stand_ok a3
          rcases h9.2 with h | h
          · exact .inl h.1
          · exact .inr h.1)
        clear hc rt hE hs1 hs2 hr hlE hl' al ar1 ar2 rt' hY rtY hYl hYn hYf hYb hF9 hLA hLY hNA ag
        go_enter Try.func8, Try.ntmps8
        go_wp2_with fail
        refine (AL.out _).mono ?_
        rintro e wa1 ⟨rfl, b⟩
        replace B := B.trans (b.mono B.size); clear b
        go_wp2_with fail
        refine (G.out _ (H.out.below B)).mono ?_
        rintro e w2 ⟨rfl, rfl⟩
        go_wp2_with fail
        refine (CK.out _ (H.out.below B)).mono ?_
        rintro e wa2 ⟨rfl, b⟩
        replace B := B.trans (b.mono B.size); clear b
        go_wp2_with fail
        refine (CH.out _ (H.out.below B)).mono ?_
        rintro e wa3 ⟨y, rfl, o1, b⟩
        replace B := B.trans (b.mono B.size); clear b
        have q1 := o1.rd
        clear o1
        go_upto_region 5 with (fail)
        refine wp_gen (fun Wv => Bx Wv (wa3.heap.size) (35) (#[.int .i64 (k : Int), .int .i64 (g0 + 1)]) ∧ Below wa3.heap.size wa3 Wv) ⟨((Bx.at_ (by simp))), ((Below.refl _ wa3).alloc (by simp <;> omega) _)⟩ ?_
        rintro wa4 ⟨g1, b⟩
        replace q1 := q1.below b; replace B := B.trans (b.mono B.size); clear b
        have c_g1 := g1.cell; have f_g1 := g1.free; have a_g1 := fun o => (g1.alloc o).cell; have d_g1 := fun o o2 => ((g1.alloc o).alloc o2).cell; have e_g1 := fun o => (g1.alloc o).free
        go_wp2_with fail
        refine (MK.out _ _ (H.out.below B) q1).mono ?_
        rintro e wa5 ⟨z, rfl, oz, b⟩
        replace q1 := q1.below b; try clear c_g1 f_g1 a_g1 d_g1 e_g1
        replace g1 := g1.below b; have c_g1 := g1.cell; have f_g1 := g1.free; have a_g1 := fun o => (g1.alloc o).cell; have d_g1 := fun o o2 => ((g1.alloc o).alloc o2).cell; have e_g1 := fun o => (g1.alloc o).free; replace B := B.trans (b.mono B.size); clear b
        have rz := oz.rd
        clear oz q1
        go_wp2_with fail
        refine (FR.out _ _ rz).mono ?_
        rintro e wa6 ⟨y2, rfl, o2, b⟩
        try clear c_g1 f_g1 a_g1 d_g1 e_g1
        replace g1 := g1.below b; have c_g1 := g1.cell; have f_g1 := g1.free; have a_g1 := fun o => (g1.alloc o).cell; have d_g1 := fun o o2 => ((g1.alloc o).alloc o2).cell; have e_g1 := fun o => (g1.alloc o).free; replace rz := rz.below b; replace B := B.trans (b.mono B.size); clear b
        have q2 := o2.rd
        clear o2
        go_wp2_with fail
        refine (MY.out _ _ _ rz q2).mono ?_
        rintro e wa7 ⟨zy, rfl, oy, b⟩
        try clear c_g1 f_g1 a_g1 d_g1 e_g1
        replace g1 := g1.below b; have c_g1 := g1.cell; have f_g1 := g1.free; have a_g1 := fun o => (g1.alloc o).cell; have d_g1 := fun o o2 => ((g1.alloc o).alloc o2).cell; have e_g1 := fun o => (g1.alloc o).free; replace rz := rz.below b; replace q2 := q2.below b; replace B := B.trans (b.mono B.size); clear b
        have ry := oy.rd
        clear oy q2 rz
        go_wp2_with fail
        refine (AW.out _ (H.out.below B)).mono ?_
        rintro e wa8 ⟨xp, rfl, op, b⟩
        try clear c_g1 f_g1 a_g1 d_g1 e_g1
        replace g1 := g1.below b; have c_g1 := g1.cell; have f_g1 := g1.free; have a_g1 := fun o => (g1.alloc o).cell; have d_g1 := fun o o2 => ((g1.alloc o).alloc o2).cell; have e_g1 := fun o => (g1.alloc o).free; replace ry := ry.below b; replace B := B.trans (b.mono B.size); clear b
        have rp : Blks wa8 xp LA := op.rd
        clear op
        go_wp2_with fail
        refine (AY.out _ _ ry).mono ?_
        rintro e wa9 ⟨xq, rfl, oq, b⟩
        try clear c_g1 f_g1 a_g1 d_g1 e_g1
        replace g1 := g1.below b; have c_g1 := g1.cell; have f_g1 := g1.free; have a_g1 := fun o => (g1.alloc o).cell; have d_g1 := fun o o2 => ((g1.alloc o).alloc o2).cell; have e_g1 := fun o => (g1.alloc o).free; replace ry := ry.below b; replace rp := rp.below b; replace B := B.trans (b.mono B.size); clear b
        have rq : Blks wa9 xq LY := oq.rd
        clear oq
        have lp := rp.len
        rw [← HNA.out] at lp
        have lq := rq.len
        rw [HLN.out] at lq
        go_wp2_with fail
        refine (CY.out _ _ ry).mono ?_
        rintro e wa10 ⟨rfl, b⟩
        try clear c_g1 f_g1 a_g1 d_g1 e_g1
        replace g1 := g1.below b; have c_g1 := g1.cell; have f_g1 := g1.free; have a_g1 := fun o => (g1.alloc o).cell; have d_g1 := fun o o2 => ((g1.alloc o).alloc o2).cell; have e_g1 := fun o => (g1.alloc o).free; replace ry := ry.below b; replace rp := rp.below b; replace rq := rq.below b; replace B := B.trans (b.mono B.size); clear b
        have HQ := Lib.hid (And.intro g1 (And.intro ry (And.intro rp (And.intro rq B))))
        clear c_g1 f_g1 a_g1 d_g1 e_g1
        clear g1 ry rp rq B
        go_wp2
        clear lq
        go_loopg [17] NA (fun g i wr => ∃ j : Nat, j ≤ NA ∧ g = NA - j ∧ i = .int .i64 j ∧ Hid (Bx wr wa3.heap.size 35 #[.int .i64 (k : Int), .int .i64 (g0 + 1)] ∧ Words wr zy Y ∧ Blks wr xp LA ∧ Blks wr xq LY ∧ Below w.heap.size w wr))
        case atStart => exact ⟨0, by omega, by omega, rfl, HQ⟩
        case round =>
          obtain ⟨j, hj, rfl, rfl, hh⟩ := hrel
          clear HQ
          by_cases hlt : j < NA
          · obtain ⟨bb, oo, d, id, m0, m1, m2, m3, m4, m5, hd, hd9⟩ := hh.out.2.2.1.at_ (k := j) (by rw [← HNA.out]; exact hlt)
            obtain ⟨b2, o2, u, iu, n0, n1, n2, n3, n4, n5, hu, hu9⟩ := hh.out.2.2.2.1.at_ (k := j) (by rw [HLN.out]; exact hlt)
            obtain ⟨u', hu', e0, e1, e2, e3, e4, e5, e6⟩ := HBK.out j d hd.out
            obtain rfl : u' = u := by rw [hu.out] at hu'; injection hu' with h; exact h.symm
            obtain ⟨⟨a, ha⟩, ⟨sz, hsz⟩, hr1, hr2, hr3⟩ := HRG.out d (List.mem_of_getElem? hd.out)
            have hkd := HKD.out d (List.mem_of_getElem? hd.out)
            obtain ⟨ua, us, uk, ut, um, un⟩ := u'
            obtain ⟨da, ds, uk, ut, um, dn⟩ := d
            dsimp only at e0 e1 e2 e3 e4 e5 e6 ha hsz hr1 hr2 hr3 hkd m0 m1 m2 m3 m4 m5 n0 n1 n2 n3 n4 n5
            subst e0; subst e1; subst e2; subst e3; subst e4; subst ha; subst hsz
            rw [Int.toNat_natCast] at hr1 hr2 hr3
            have HS := Lib.hid e6
            have H5 := Lib.hid e5
            have LX : Below wr.heap.size wr wr := Below.refl _ _
            clear hd hd9 hu hu9 hu' e5 e6
            go_upto_region 17 with (fail)
            refine wp_region_two ⟨(a : Int), (sz : Int), uk, ut, um, dn⟩ ⟨(a : Int), (sz : Int), uk, ut, um, un⟩ (by kernel_rfl) (by kernel_rfl) (by kernel_rfl) (by kernel_rfl) ?_
            intro g
            have c0 := fun x : FXN (FTB wr ⟨(a : Int), (sz : Int), uk, ut, um, dn⟩ ⟨(a : Int), (sz : Int), uk, ut, um, un⟩ g) => cell_later x.belowTB m0
            have c1 := fun x : FXN (FTB wr ⟨(a : Int), (sz : Int), uk, ut, um, dn⟩ ⟨(a : Int), (sz : Int), uk, ut, um, un⟩ g) => cell_later x.belowTB m1
            have c2 := fun x : FXN (FTB wr ⟨(a : Int), (sz : Int), uk, ut, um, dn⟩ ⟨(a : Int), (sz : Int), uk, ut, um, un⟩ g) => cell_later x.belowTB m2
            have c3 := fun x : FXN (FTB wr ⟨(a : Int), (sz : Int), uk, ut, um, dn⟩ ⟨(a : Int), (sz : Int), uk, ut, um, un⟩ g) => cell_later x.belowTB m3
            have c4 := fun x : FXN (FTB wr ⟨(a : Int), (sz : Int), uk, ut, um, dn⟩ ⟨(a : Int), (sz : Int), uk, ut, um, un⟩ g) => cell_later x.belowTB m4
            have c5 := fun x : FXN (FTB wr ⟨(a : Int), (sz : Int), uk, ut, um, dn⟩ ⟨(a : Int), (sz : Int), uk, ut, um, un⟩ g) => cell_later x.belowTB m5
            have k0 := fun x : FXN (FTB wr ⟨(a : Int), (sz : Int), uk, ut, um, dn⟩ ⟨(a : Int), (sz : Int), uk, ut, um, un⟩ g) => cell_later x.belowTB n0
            have k1 := fun x : FXN (FTB wr ⟨(a : Int), (sz : Int), uk, ut, um, dn⟩ ⟨(a : Int), (sz : Int), uk, ut, um, un⟩ g) => cell_later x.belowTB n1
            have k2 := fun x : FXN (FTB wr ⟨(a : Int), (sz : Int), uk, ut, um, dn⟩ ⟨(a : Int), (sz : Int), uk, ut, um, un⟩ g) => cell_later x.belowTB n2
            have k3 := fun x : FXN (FTB wr ⟨(a : Int), (sz : Int), uk, ut, um, dn⟩ ⟨(a : Int), (sz : Int), uk, ut, um, un⟩ g) => cell_later x.belowTB n3
            have k4 := fun x : FXN (FTB wr ⟨(a : Int), (sz : Int), uk, ut, um, dn⟩ ⟨(a : Int), (sz : Int), uk, ut, um, un⟩ g) => cell_later x.belowTB n4
            have k5 := fun x : FXN (FTB wr ⟨(a : Int), (sz : Int), uk, ut, um, dn⟩ ⟨(a : Int), (sz : Int), uk, ut, um, un⟩ g) => cell_later x.belowTB n5
            haveI : Nonempty (FXN (FTB wr ⟨(a : Int), (sz : Int), uk, ut, um, dn⟩ ⟨(a : Int), (sz : Int), uk, ut, um, un⟩ g)) := ⟨⟨_, _, FTB.start⟩⟩
            iterate 8 (refine wpM_read FTB.dep rfl (by decide) (by decide) ?_; go_big_quiet_step (fail); refine wpQuiet_nil ?_)
            refine wpM_new (by decide) rfl (by intro W; simp [execOp, go_sem, zeroB]) ?_
            simp only [Act.put, List.setIfInBounds_toArray, List.set_cons_zero, List.set_cons_succ]
            rw [show valT g 8 = .pointer (some ⟨g.1, 0, none⟩) from rfl]
            refine wpM_new (by decide) rfl (by intro W; simp [execOp, go_sem, zeroB]) ?_
            simp only [Act.put, List.setIfInBounds_toArray, List.set_cons_zero, List.set_cons_succ]
            rw [show valT g 9 = .pointer (some ⟨g.2, 0, none⟩) from rfl]
            refine wpM_store FTB.dep (by decide) rfl 54 (.tmp 18) (.tmp 98) rfl (by rfl) (p := .pointer (some ⟨g.1, 0, none⟩)) (u := .agg #[.int .i64 (a : Int), .int .i64 (sz : Int), .int .i64 uk, .int .i64 ut, .bool um, .int .u64 dn.toNat]) (by rfl) (by rfl) [8] (by kernel_rfl) (fun f W hF h0 h1 => ?_) ?_
            · obtain ⟨s1, s2, s3⟩ := hF.store1 (h1 8 (by simp)) h0
              refine ⟨_, ?_, s3⟩
              simp [go_sem, s1, s2, zeroB, set6]
            simp only [Act.put, List.setIfInBounds_toArray, List.set_cons_zero, List.set_cons_succ]
            refine wpM_store FTB.dep (by decide) rfl 54 (.tmp 19) (.tmp 102) rfl (by rfl) (p := .pointer (some ⟨g.2, 0, none⟩)) (u := .agg #[.int .i64 (a : Int), .int .i64 (sz : Int), .int .i64 uk, .int .i64 ut, .bool um, .int .u64 un.toNat]) (by rfl) (by rfl) [9] (by kernel_rfl) (fun f W hF h0 h1 => ?_) ?_
            · obtain ⟨s1, s2, s3⟩ := hF.store2 (h1 9 (by simp)) h0
              refine ⟨_, ?_, s3⟩
              simp [go_sem, s1, s2, zeroB, set6]
            simp only [Act.put, List.setIfInBounds_toArray, List.set_cons_zero, List.set_cons_succ]
            refine wpM_nil ?_
            intro w' hF
            obtain ⟨bW, _, _, f1, f2, f3⟩ := hF
            obtain ⟨hp1, x1⟩ := f1 rfl
            obtain ⟨hp2, x2⟩ := f2 rfl
            have hpq := f3 rfl rfl
            replace x1 : Bx w' g.1 54 #[.int .i64 (a : Int), .int .i64 (sz : Int), .int .i64 uk, .int .i64 ut, .bool um, .int .u64 dn.toNat] := x1
            replace x2 : Bx w' g.2 54 #[.int .i64 (a : Int), .int .i64 (sz : Int), .int .i64 uk, .int .i64 ut, .bool um, .int .u64 un.toNat] := x2
            clear f1 f2 f3 c0 c1 c2 c3 c4 c5 k0 k1 k2 k3 k4 k5 this m0 m1 m2 m3 m4 m5 n0 n1 n2 n3 n4 n5 id iu LX
            obtain ⟨p1, p2⟩ := g
            dsimp only at hp1 hp2 x1 x2 hpq
            rcases hkd with hk | hk
            · have hun := H5.out (by omega)
              subst hun
              have kk1 : (uk == 2) = false := by rw [beq_eq_false_iff_ne]; omega
              have kk2 : (uk == 1) = true := by rw [beq_iff_eq]; exact hk
              have HK := Lib.hid hk
              clear hk
              have nq : ∀ W, (binOp .neq 54 (.agg #[.int .i64 (a : Int), .int .i64 (sz : Int), .int .i64 uk, .int .i64 ut, .bool um, .int .u64 un.toNat]) (.agg #[.int .i64 (a : Int), .int .i64 (sz : Int), .int .i64 uk, .int .i64 ut, .bool um, .int .u64 un.toNat])).run Try.prog W = .ok (.bool false) W := fun W => by simp [go_sem]
              have c_1 := x1.cell
              have c_2 := x2.cell
              have wsum : IntKind.i64.wrap ((a : Int) + (sz : Int)) = (a : Int) + (sz : Int) := IntWalk.i64_in _ (by omega)
              go_upto_region 22 with (fail)
              clear c_1 c_2 x2 nq
              have LV := Lib.hid (And.intro x1 bW)
              clear x1 bW
              generalize w' = V at *
              have c_1 := LV.out.1.cell
              go_wp2
              clear c_1
              go_loopg [20] sz (fun g i wr' => ∃ m : Nat, a ≤ m ∧ m ≤ a + sz ∧ g = a + sz - m ∧ i = .int .i64 (m : Int) ∧ Hid (Bx wr' p1 54 #[.int .i64 (a : Int), .int .i64 (sz : Int), .int .i64 uk, .int .i64 ut, .bool um, .int .u64 un.toNat] ∧ Below wr.heap.size wr wr'))
              case atStart => exact ⟨a, by omega, by omega, by omega, rfl, LV⟩
              case round =>
                obtain ⟨m, hm1, hm2, rfl, rfl, LV2⟩ := hrel
                clear LV
                have c_1 := LV2.out.1.cell
                by_cases hle : m < a + sz
                · have t1 : decide ((m : Int) < (a : Int) + (sz : Int)) = true := decide_eq_true (by omega)
                  obtain ⟨ad1, v1, i1, m1, hv1⟩ := (H.out.below (hh.out.2.2.2.2.trans (LV2.out.2.mono hh.out.2.2.2.2.size))).at_ (P := Try.prog) Try.underlying22 one_u64 (k := m) (by omega)
                  obtain ⟨ad2, v2, i2, m2, hv2⟩ := (hh.out.2.1.below LV2.out.2).at_ (P := Try.prog) Try.underlying22 one_u64 (k := m) (by rw [HYL.out]; omega)
                  obtain rfl : v2 = v1 := by
                    have h9 := HS.out HK.out m (by omega) (by omega)
                    rw [List.getD_eq_getElem?_getD, List.getD_eq_getElem?_getD, hv1.out, hv2.out] at h9
                    exact h9
                  have nn : ((v2.toNat : Int) != (v2.toNat : Int)) = false := by rw [bne_eq_false_iff_eq]
                  clear hv1 hv2
                  have B := LV2.out.2
                  go_upto_region 25 with (fail)
                  clear c_1
                  refine wp_region_calm (by kernel_rfl) (by kernel_rfl) ?_
                  have c_m1 := fun x : Fut _ => cell_later x.h m1
                  have c_m2 := fun x : Fut _ => cell_later x.h m2
                  repeat (go_big_quiet_step (fail))
                  refine wpQuiet_nil ?_
                  intro _ hw'
                  obtain ⟨xq, hw''⟩ := hw'
                  subst hw''
                  clear c_m1; replace m1 := cell_later xq.h m1
                  clear c_m2; replace m2 := cell_later xq.h m2
                  replace B := B.trans (xq.h.mono B.size)
                  have LV3 := Lib.hid (And.intro (LV2.out.1.below xq.h) B)
                  clear m1 m2 i1 i2 B
                  go_wp2
                  go_roundg (a + sz - (m + 1))
                  case measure => omega
                  case rel => exact ⟨m + 1, by omega, by omega, rfl, by go_num, LV3⟩
                · have t1 : decide ((m : Int) < (a : Int) + (sz : Int)) = false := decide_eq_false (by omega)
                  go_wp2
                  clear c_1
                  go_roundg (NA - (j + 1))
                  case measure => omega
                  case rel =>
                    have b := LV2.out.2
                    exact ⟨j + 1, by omega, rfl, by go_num, Lib.hid ⟨hh.out.1.below b, hh.out.2.1.below b, hh.out.2.2.1.below b, hh.out.2.2.2.1.below b, hh.out.2.2.2.2.trans (b.mono hh.out.2.2.2.2.size)⟩⟩
            · have kk1 : (uk == 2) = true := by rw [beq_iff_eq]; exact hk
              have kk2 : (uk == 1) = false := by rw [beq_eq_false_iff_ne]; omega
              clear hk
              have nq : ∀ W, (binOp .neq 54 (.agg #[.int .i64 (a : Int), .int .i64 (sz : Int), .int .i64 uk, .int .i64 ut, .bool um, .int .u64 0]) (.agg #[.int .i64 (a : Int), .int .i64 (sz : Int), .int .i64 uk, .int .i64 ut, .bool um, .int .u64 0])).run Try.prog W = .ok (.bool false) W := fun W => by simp [go_sem]
              have wsum : IntKind.i64.wrap ((a : Int) + (sz : Int)) = (a : Int) + (sz : Int) := IntWalk.i64_in _ (by omega)
              have c_1 := x1.cell
              have f_1 := x1.free
              have c_2 := fun v => (x2.far (p := ⟨p1, 5, none⟩) (Ne.symm hpq) v).cell
              have f_2 := fun v => (x2.far (p := ⟨p1, 5, none⟩) (Ne.symm hpq) v).free
              go_upto_region 20 with (fail)
              clear c_1 f_1 c_2 f_2
              refine wp_gen (fun V => (Bx V p1 54 #[.int .i64 (a : Int), .int .i64 (sz : Int), .int .i64 uk, .int .i64 ut, .bool um, .int .u64 0] ∧ Bx V p2 54 #[.int .i64 (a : Int), .int .i64 (sz : Int), .int .i64 uk, .int .i64 ut, .bool um, .int .u64 0]) ∧ Below wr.heap.size wr V) ⟨two_zero x1 x2 hpq, (bW.setCell (p := ⟨p1, 5, none⟩) hp1 _).setCell (p := ⟨p2, 5, none⟩) hp2 _⟩ ?_
              clear x1 x2 bW
              rintro V ⟨⟨y1, y2⟩, bV⟩
              have c_1 := y1.cell
              have c_2 := y2.cell
              go_upto_region 22 with (fail)
              clear c_1 c_2 y2 nq
              have LV := Lib.hid (And.intro y1 bV)
              clear y1 bV
              have c_1 := LV.out.1.cell
              have t1 : decide ((a : Int) < (a : Int) + (sz : Int)) = true := decide_eq_true (by omega)
              go_wp2
              clear c_1
              go_loopg [20] 1 (fun g i wr' => g = 1 ∧ i = .int .i64 (a : Int) ∧ wr' = V)
              case atStart => exact ⟨rfl, rfl, rfl⟩
              case round =>
                obtain ⟨rfl, rfl, rfl⟩ := hrel
                have c_1 := LV.out.1.cell
                go_wp2
                clear c_1
                go_roundg (NA - (j + 1))
                case measure => omega
                case rel =>
                  have b := LV.out.2
                  exact ⟨j + 1, by omega, rfl, by go_num, Lib.hid ⟨hh.out.1.below b, hh.out.2.1.below b, hh.out.2.2.1.below b, hh.out.2.2.2.1.below b, hh.out.2.2.2.2.trans (b.mono hh.out.2.2.2.2.size)⟩⟩
          · obtain rfl : j = NA := by omega
            go_wp2
            go_loopg [21] 128 (fun g i wr => ∃ j3 : Nat, j3 ≤ 128 ∧ g = 128 - j3 ∧ i = .int .i64 j3 ∧ Hid (Bx wr wa3.heap.size 35 #[.int .i64 (k : Int), .int .i64 (g0 + 1)] ∧ Words wr zy Y ∧ Below w.heap.size w wr))
            case atStart => exact ⟨0, by omega, by omega, rfl, Lib.hid ⟨hh.out.1, hh.out.2.1, hh.out.2.2.2.2⟩⟩
            case round =>
              clear hh
              obtain ⟨j3, hj3, rfl, rfl, hh⟩ := hrel
              obtain ⟨g1, ry, B⟩ := hh.out
              by_cases hlt3 : j3 < 128
              · obtain ⟨ad1, v1, i1, m1, hv1⟩ := (H.out.below B).at_ (P := Try.prog) Try.underlying22 one_u64 (k := j3) (by omega)
                obtain ⟨ad2, v2, i2, m2, hv2⟩ := ry.at_ (P := Try.prog) Try.underlying22 one_u64 (k := j3) (by rw [HYL.out]; omega)
                have wk : IntKind.i64.wrap (112 + (k : Int)) = 112 + (k : Int) := IntWalk.i64_in _ (by omega)
                have hcase : ((v1.toNat : Int) != (v2.toNat : Int)) = false ∨ (((v1.toNat : Int) != (v2.toNat : Int)) = true ∧ ((j3 : Int) != 112 + (k : Int)) = false) := by
                  by_cases e : j3 = 112 + k
                  · cases hx : ((v1.toNat : Int) != (v2.toNat : Int))
                    · exact .inl rfl
                    · exact .inr ⟨rfl, by rw [bne_eq_false_iff_eq]; omega⟩
                  · have h9 := HFR.out j3 hlt3 e
                    rw [List.getD_eq_getElem?_getD, List.getD_eq_getElem?_getD, hv1.out, hv2.out] at h9
                    have h8 : v2 = v1 := h9
                    exact .inl (by rw [bne_eq_false_iff_eq, h8])
                clear hv1 hv2 hh
                rcases hcase with nn | ⟨nn, n2⟩
                · skip
                  go_upto_region 30 with (fail)
                  refine wp_region_calm (by kernel_rfl) (by kernel_rfl) ?_
                  try clear c_g1 f_g1 a_g1 d_g1 e_g1
                  have c_g1 := fun x : Fut _ => (g1.below x.h).cell
                  have c_m1 := fun x : Fut _ => cell_later x.h m1
                  have c_m2 := fun x : Fut _ => cell_later x.h m2
                  repeat (go_big_quiet_step (fail))
                  refine wpQuiet_nil ?_
                  intro _ hw'
                  obtain ⟨xq, hw''⟩ := hw'
                  subst hw''
                  clear c_g1; replace g1 := g1.below xq.h; have c_g1 := g1.cell; have f_g1 := g1.free; have a_g1 := fun o => (g1.alloc o).cell; have d_g1 := fun o o2 => ((g1.alloc o).alloc o2).cell; have e_g1 := fun o => (g1.alloc o).free
                  replace ry := ry.below xq.h
                  clear c_m1; replace m1 := cell_later xq.h m1
                  clear c_m2; replace m2 := cell_later xq.h m2
                  replace B := B.trans (xq.h.mono B.size)
                  have HZ := Lib.hid (And.intro g1 (And.intro ry B))
                  clear g1 ry B m1 m2 c_g1 f_g1 a_g1 d_g1 e_g1
                  go_wp2
                  go_roundg (128 - (j3 + 1))
                  case measure => omega
                  case rel => exact ⟨j3 + 1, by omega, rfl, by go_num, HZ⟩
                · skip
                  go_upto_region 30 with (fail)
                  refine wp_region_calm (by kernel_rfl) (by kernel_rfl) ?_
                  try clear c_g1 f_g1 a_g1 d_g1 e_g1
                  have c_g1 := fun x : Fut _ => (g1.below x.h).cell
                  have c_m1 := fun x : Fut _ => cell_later x.h m1
                  have c_m2 := fun x : Fut _ => cell_later x.h m2
                  repeat (go_big_quiet_step (fail))
                  refine wpQuiet_nil ?_
                  intro _ hw'
                  obtain ⟨xq, hw''⟩ := hw'
                  subst hw''
                  clear c_g1; replace g1 := g1.below xq.h; have c_g1 := g1.cell; have f_g1 := g1.free; have a_g1 := fun o => (g1.alloc o).cell; have d_g1 := fun o o2 => ((g1.alloc o).alloc o2).cell; have e_g1 := fun o => (g1.alloc o).free
                  replace ry := ry.below xq.h
                  clear c_m1; replace m1 := cell_later xq.h m1
                  clear c_m2; replace m2 := cell_later xq.h m2
                  replace B := B.trans (xq.h.mono B.size)
                  have HZ := Lib.hid (And.intro g1 (And.intro ry B))
                  clear g1 ry B m1 m2 c_g1 f_g1 a_g1 d_g1 e_g1
                  go_wp2
                  go_roundg (128 - (j3 + 1))
                  case measure => omega
                  case rel => exact ⟨j3 + 1, by omega, rfl, by go_num, HZ⟩
              · obtain rfl : j3 = 128 := by omega
                clear hh g1 ry
                go_wp2
                go_ret
                exact ⟨rfl, B⟩
end Go.Proofs.Ytmbokdnndlnjkaa
