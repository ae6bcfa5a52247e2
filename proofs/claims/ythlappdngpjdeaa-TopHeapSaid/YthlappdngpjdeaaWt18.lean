/- The law TopHeap holds: the layers of the heap agree. -/
import Derived.Test.YthlappdngpjdeaaMHl
import Derived.Deep.DeepCutAuto
set_option linter.unusedVariables false
set_option linter.unusedSimpArgs false
namespace Go.Proofs.Ythlappdngpjdeaa
open Go.RowKit L02 L13 L14 L15 L16 L19 L71

theorem tab_ok18 {l : List UInt64} {n : Int} (h : tabErr l n = 0) : (tabT l n).length ≤ 8 ∧ ∀ t ∈ tabT l n, kErr t = 0 := by
  have h1 : (0 ≤ n ∧ n ≤ 8) ∧ TysOk l n.toNat := by
    unfold tabErr at h
    split at h
    · split at h
      · rename_i h2
        split at h
        · rename_i h3; exact ⟨h2, h3⟩
        · cases h
      · cases h
    · cases h
  have e : tabT l n = tysTo l n.toNat := by rw [tabT, if_pos h]
  rw [e]
  refine ⟨by rw [tysTo_len]; omega, fun t ht => ?_⟩
  obtain ⟨i, hi, rfl⟩ := List.mem_map.1 ht
  have hi := List.mem_range.1 hi
  have := h1.2 i (by omega)
  rw [TyOk, if_pos hi] at this
  rw [rdL, if_pos this]
  exact this.2.1
theorem hErr_type {t : List UInt8} {j : Nat} (h : kErr t = 0) (hj : j < 8) : hErr ⟨0, kSize t, 1, j, false, 0⟩ = 0 := by
  have h8 := (kErr_ok h).1
  have e : kSize t = 2 + ((t.length + 1) / 2 * 2 : Nat) := by rw [kSize, if_pos h]
  refine hErr_ok ⟨⟨?_, ?_⟩, .inl ⟨rfl, ⟨?_, ?_⟩, ?_⟩⟩ <;> dsimp only <;> omega

set_option maxRecDepth 100000 in
set_option maxHeartbeats 8000000 in
theorem TopHeap_walk (v : Value) (l : List UInt64) (ty a : Int) (w : World) (h0 : Words w v l) (_h1 : -9223372036854775808 ≤ ty ∧ ty ≤ 9223372036854775807) (_h2 : -9223372036854775808 ≤ a ∧ a ≤ 9223372036854775807) :
    Calls Try.prog 3 #[v, .int .i64 ty, .int .i64 a] w fun e w' => e = .returned (.bool true) ∧ Below w.heap.size w w' := by
  clear _h1 _h2
  have B : Below w.heap.size w w := Below.refl _ _
  have H := Lib.hid h0; clear h0
  have AL := Lib.hid alive18_any
  obtain ⟨c, hc⟩ : ∃ c, c = L02.chk l := ⟨_, rfl⟩
  obtain ⟨gr, hgr⟩ : ∃ g, g = decide (2100 < l.length) := ⟨_, rfl⟩
  have G : Hid (∀ w, Words w v l → Calls Try.prog 5 #[v] w fun e w' => e = .returned (.bool gr) ∧ w = w') := by rw [hgr]; exact Lib.hid (fun w h => Great_any v l w h)
  have CT : Hid (∀ w, Words w v l → Calls Try.prog 6 #[v] w fun e w' => e = .returned (.int .i64 c) ∧ w = w') := by rw [hc]; exact Lib.hid (fun w h => CheckR_any v l w h)
  cases gr
  case true =>
    clear hgr hc
    go_enter Try.func3, Try.ntmps3
    go_wp2_with fail
    refine (AL.out _).mono ?_
    rintro e wa1 ⟨rfl, b⟩
    replace B := B.trans (b.mono B.size); clear b
    go_wp2_with fail
    refine (G.out _ (H.out.below B)).mono ?_
    rintro e w' ⟨rfl, rfl⟩
    go_wp2
    go_ret
    exact ⟨rfl, B⟩
  case false =>
    by_cases hs : SizeOk l.length
    case neg =>
      have hc8 : c = 8 := by rw [hc, chk_no hs]
      subst hc8
      clear hgr hc hs
      go_enter Try.func3, Try.ntmps3
      go_wp2_with fail
      refine (AL.out _).mono ?_
      rintro e wa1 ⟨rfl, b⟩
      replace B := B.trans (b.mono B.size); clear b
      go_wp2_with fail
      refine (G.out _ (H.out.below B)).mono ?_
      rintro e w' ⟨rfl, rfl⟩
      go_wp2_with fail
      refine (CT.out _ (H.out.below B)).mono ?_
      rintro e w' ⟨rfl, rfl⟩
      go_wp2
      go_ret
      exact ⟨rfl, B⟩
    case pos =>
      have hc0 : c = 0 := by rw [hc, L02.chk, if_pos hs]
      subst hc0
      have HS := Lib.hid hs
      clear hgr hc hs
      obtain ⟨L, hL⟩ : ∃ L, L = allL l := ⟨_, rfl⟩
      obtain ⟨r, hr⟩ : ∃ r, r = allErr l := ⟨_, rfl⟩
      have WA := Lib.hid (fun w h => AllW_any v l L r hL hr w h)
      by_cases hr0 : r = 0
      case neg =>
        have n1 : (r != 0) = true := by rw [bne_iff_ne]; exact hr0
        clear hL hr hr0
        go_enter Try.func3, Try.ntmps3
        go_wp2_with fail
        refine (AL.out _).mono ?_
        rintro e wa1 ⟨rfl, b⟩
        replace B := B.trans (b.mono B.size); clear b
        go_wp2_with fail
        refine (G.out _ (H.out.below B)).mono ?_
        rintro e w' ⟨rfl, rfl⟩
        go_wp2_with fail
        refine (CT.out _ (H.out.below B)).mono ?_
        rintro e w' ⟨rfl, rfl⟩
        go_wp2_with fail
        refine (WA.out _ (H.out.below B)).mono ?_
        rintro e wa2 ⟨xl, rfl, ol, b⟩
        replace B := B.trans (b.mono B.size); clear b
        go_wp2
        go_ret
        exact ⟨rfl, B⟩
      case pos =>
        subst hr0
        obtain ⟨F, hF⟩ : ∃ F, F = freeL l := ⟨_, rfl⟩
        have FW := Lib.hid (fun w h => FreeW_any v l F 0 hF hr w h)
        have LS := Lib.hid (fun w h => Lists_any v l F hF hr.symm w h)
        have LD := Lib.hid (fun xv lv B0 w hx hl => listed18_any xv lv F B0 (fun b hb => free_bd hr.symm (by rw [← hF]; exact hb)) (by rw [hF]; exact free_len hr.symm) w hx hl)
        have HB := Lib.hid (fun (i : Nat) (b : Hb) (hb : L[i]? = some b) => th_block hr.symm (by rw [← hL]; exact hb))
        obtain ⟨N, hN⟩ : ∃ N, N = L.length := ⟨_, rfl⟩
        have hN9 : N ≤ 960 := by rw [hN, hL]; exact all_len hr.symm
        have HN := Lib.hid hN
        have lw := Rd.len H.out Try.underlying22
        clear hF hL hr hN
        go_enter Try.func3, Try.ntmps3
        go_wp2_with fail
        refine (AL.out _).mono ?_
        rintro e wa1 ⟨rfl, b⟩
        replace B := B.trans (b.mono B.size); clear b
        go_wp2_with fail
        refine (G.out _ (H.out.below B)).mono ?_
        rintro e w' ⟨rfl, rfl⟩
        go_wp2_with fail
        refine (CT.out _ (H.out.below B)).mono ?_
        rintro e w' ⟨rfl, rfl⟩
        go_wp2_with fail
        refine (WA.out _ (H.out.below B)).mono ?_
        rintro e wa2 ⟨xl, rfl, ol, b⟩
        replace B := B.trans (b.mono B.size); clear b
        have kl := ol.rd
        have lx := kl.len
        rw [← HN.out] at lx
        clear ol
        go_wp2_with fail
        refine (FW.out _ (H.out.below B)).mono ?_
        rintro e wa3 ⟨xf, rfl, of_, b⟩
        replace kl := kl.below b; replace B := B.trans (b.mono B.size); clear b
        have kf := of_.rd
        clear of_
        go_wp2_with fail
        refine (LS.out _ (H.out.below B)).mono ?_
        rintro e wa4 ⟨kv, rfl, oll, b⟩
        replace kl := kl.below b; replace kf := kf.below b; replace B := B.trans (b.mono B.size); clear b
        have ll := oll.len
        rw [listsB_len] at ll
        go_wp2_with fail
        refine (LD.out _ _ _ _ kf oll).mono ?_
        rintro e wa5 ⟨rfl, b⟩
        replace kl := kl.below b; replace kf := kf.below b; replace oll := oll.below b; replace B := B.trans (b.mono B.size); clear b
        clear G CT AL WA FW LS LD ll kf oll
        have HK := Lib.hid kl; have HB0 := Lib.hid B; have hz5 := B.size
        have HBB := Lib.hid (Below.refl wa5.heap.size wa5)
        clear kl B
        go_wp2
        go_loopg [14] N (fun g i wr => ∃ j : Nat, j ≤ N ∧ g = N - j ∧ i = .int .i64 j ∧ Hid (Below wa5.heap.size wa5 wr))
        case atStart => exact ⟨0, by omega, by omega, rfl, HBB⟩
        case round =>
          clear HBB
          obtain ⟨j, hj, rfl, rfl, hh⟩ := hrel
          have B := hh.out
          clear hh
          by_cases hlt : j < N
          · obtain ⟨bb, oo, b, ia, m0, m1, m2, m3, m4, m5, hb, _⟩ := (Blks.below HK.out B).at_ (k := j) (by rw [← HN.out]; exact hlt)
            obtain ⟨hhe, n, hn, hn1, hn2, hn3, hw⟩ := HB.out j b hb.out
            have WT := fun w => HWord_any b (word b) 0 rfl hhe.symm w
            obtain ⟨wd, hwd⟩ : ∃ x, x = word b := ⟨_, rfl⟩
            rw [← hwd] at WT hw
            clear hwd hhe hb
            obtain ⟨ba, S, K, T, mm, nx⟩ := b
            dsimp only at hn m0 m1 m2 m3 m4 m5 WT
            subst hn
            have HWT := Lib.hid WT
            obtain ⟨xa, y, iy, m6, hy⟩ := (Words.below H.out (HB0.out.trans (B.mono hz5))).at_ (P := Try.prog) Try.underlying22 one_u64 (k := n) hn2
            obtain rfl : y = wd := by have h := hy.out; rw [hw] at h; injection h with h; exact h.symm
            have d1 : decide ((n : Int) < 0) = false := decide_eq_false (by omega)
            have d2 : decide ((l.length : Int) ≤ (n : Int)) = false := decide_eq_false (by omega)
            clear hy hw hn1 hn3 WT
            go_wp2_with fail
            refine (HWT.out _).mono ?_
            rintro e wa6 ⟨rfl, b⟩
            replace m0 := cell_later b m0; replace m1 := cell_later b m1; replace m2 := cell_later b m2; replace m3 := cell_later b m3; replace m4 := cell_later b m4; replace m5 := cell_later b m5; replace m6 := cell_later b m6; replace B := B.trans (b.mono B.size); clear b
            have HBB := Lib.hid B
            clear B
            go_wp2
            go_roundg (N - (j + 1))
            case measure => omega
            case rel => exact ⟨j + 1, by omega, rfl, by go_num, HBB⟩
          · obtain rfl : j = N := by omega
            have B := HB0.out.trans (B.mono hz5)
            obtain ⟨TL, hTL⟩ : ∃ x, x = tabT l ty := ⟨_, rfl⟩
            obtain ⟨tr, htr⟩ : ∃ x, x = tabErr l ty := ⟨_, rfl⟩
            have KT := Lib.hid (fun w h => KTable_any v l ty TL tr hTL htr w h)
            have HTO := Lib.hid (fun (e : tr = 0) => show TL.length ≤ 8 ∧ ∀ t ∈ TL, kErr t = 0 by rw [hTL]; exact tab_ok18 (htr.symm.trans e))
            clear hTL htr HK HB HB0 HN hz5
            go_wp2_with fail
            refine (KT.out _ (H.out.below B)).mono ?_
            rintro e wa7 ⟨tv, rfl, ot, b⟩
            replace B := B.trans (b.mono B.size); clear b
            clear KT
            go_upto_if 125 with (fail)
            go_cut [] (fun wx => Hid (Below w.heap.size w wx))
            case first =>
              by_cases ht0 : tr = 0
              · subst ht0
                obtain ⟨h8, hke⟩ := HTO.out rfl
                obtain ⟨n2, hn2⟩ : ∃ n, n = TL.length := ⟨_, rfl⟩
                rw [← hn2] at h8
                have lt := ot.rd.len
                rw [← hn2] at lt
                have HN2 := Lib.hid hn2; have HKE := Lib.hid hke
                have HTT := Lib.hid ot.rd; have HB7 := Lib.hid B; have hz7 := B.size
                have HBB := Lib.hid (Below.refl wa7.heap.size wa7)
                clear ot B hn2 hke HTO
                go_wp2
                go_loopg [19] n2 (fun g i wr2 => ∃ k : Nat, k ≤ n2 ∧ g = n2 - k ∧ i = .int .i64 k ∧ Hid (Below wa7.heap.size wa7 wr2))
                case atStart => exact ⟨0, by omega, by omega, rfl, HBB⟩
                case round =>
                  clear HBB
                  obtain ⟨k, hk, rfl, rfl, hh⟩ := hrel
                  have B := hh.out
                  clear hh
                  by_cases hlt2 : k < n2
                  · obtain ⟨ad, y, t, iy, m0, ht, hby⟩ := (Typs.below HTT.out B).at_ (k := k) (by rw [← HN2.out]; exact hlt2)
                    have hk0 := HKE.out t (List.mem_of_getElem? ht.out)
                    have KS := fun w h => KSize_any y t (kSize t) 0 rfl hk0.symm w h
                    have hty := hErr_type (j := k) hk0 (by omega)
                    obtain ⟨sz, hsz⟩ : ∃ s, s = kSize t := ⟨_, rfl⟩
                    rw [← hsz] at KS hty
                    have HCK : Hid (∀ w, Calls Try.prog 14 #[.agg #[.int .i64 0, .int .i64 sz, .int .i64 1, .int .i64 (k : Int), .bool false, .int .u64 0]] w fun e w' => e = .returned (.int .i64 0) ∧ Below w.heap.size w w') := Lib.hid (fun w => HCheck_any ⟨0, sz, 1, (k : Int), false, 0⟩ 0 hty.symm w)
                    have HKS := Lib.hid KS
                    clear KS hty hsz hk0 ht
                    go_wp2_with fail
                    refine (HKS.out _ hby.out).mono ?_
                    rintro e w' ⟨rfl, rfl⟩
                    go_wp2_with fail
                    refine (HCK.out _).mono ?_
                    rintro e wa8 ⟨rfl, b⟩
                    replace B := B.trans (b.mono B.size); clear b
                    have HBB := Lib.hid B
                    clear B
                    go_wp2
                    go_roundg (n2 - (k + 1))
                    case measure => omega
                    case rel => exact ⟨k + 1, by omega, rfl, by go_num, HBB⟩
                  · obtain rfl : k = n2 := by omega
                    have HG := Lib.hid (HB7.out.trans (B.mono hz7))
                    clear B
                    go_wp2
                    go_meet
                    exact HG
              · have n1 : (tr == 0) = false := by rw [beq_eq_false_iff_ne]; exact ht0
                have HG := Lib.hid B
                clear ot B ht0
                go_wp2
                go_meet
                exact HG
            case rest =>
              have B := hcut.out
              clear hcut HTO
              obtain ⟨b, hb⟩ : ∃ x, x = find l a := ⟨_, rfl⟩
              obtain ⟨fr, hfr⟩ : ∃ x, x = findErr l a := ⟨_, rfl⟩
              have FI := Lib.hid (fun w h => Find_any v l a b fr hb hfr w h)
              by_cases hf0 : fr = 0
              · subst hf0
                by_cases hk1 : b.kind = 1
                · have hll : l.length ≤ 1048576 := by have := HS.out.2.1; omega
                  have BE := Lib.hid (fun w h => becomes18_any v l a hll hfr.symm (by rw [← hb]; exact hk1) w h)
                  have HD := Lib.hid (fun w h => handled18_any v l a HS.out hfr.symm (by rw [← hb]; exact hk1) w h)
                  have n2 : (b.kind != 1) = false := by rw [bne_eq_false_iff_eq]; exact hk1
                  clear hb hfr hk1 hll
                  go_wp2_with fail
                  refine (FI.out _ (H.out.below B)).mono ?_
                  rintro e wa9 ⟨rfl, b⟩
                  replace B := B.trans (b.mono B.size); clear b
                  go_upto_region 26 with (fail)
                  refine wp_gen (fun Wv => Bx Wv (wa9.heap.size) (38) (#[.int .i64 b.at_, .int .i64 b.size, .int .i64 b.kind, .int .i64 b.ty, .bool b.mark, .int .u64 b.next.toNat]) ∧ Below wa9.heap.size wa9 Wv) ⟨((Bx.at_ (by simp))), ((Below.refl _ wa9).alloc (by simp <;> omega) _)⟩ ?_
                  rintro wa10 ⟨g22, b⟩
                  replace B := B.trans (b.mono B.size); clear b
                  have c_g22 := g22.cell; have f_g22 := g22.free; have a_g22 := fun o => (g22.alloc o).cell; have d_g22 := fun o o2 => ((g22.alloc o).alloc o2).cell; have e_g22 := fun o => (g22.alloc o).free
                  go_wp2_with fail
                  refine (BE.out _ (H.out.below B)).mono ?_
                  rintro e wa11 ⟨rfl, b⟩
                  try clear c_g22 f_g22 a_g22 d_g22 e_g22
                  replace g22 := g22.below b; have c_g22 := g22.cell; have f_g22 := g22.free; have a_g22 := fun o => (g22.alloc o).cell; have d_g22 := fun o o2 => ((g22.alloc o).alloc o2).cell; have e_g22 := fun o => (g22.alloc o).free; replace B := B.trans (b.mono B.size); clear b
                  go_wp2_with fail
                  refine (HD.out _ (H.out.below B)).mono ?_
                  rintro e wa12 ⟨rfl, b⟩
                  try clear c_g22 f_g22 a_g22 d_g22 e_g22
                  replace g22 := g22.below b; have c_g22 := g22.cell; have f_g22 := g22.free; have a_g22 := fun o => (g22.alloc o).cell; have d_g22 := fun o o2 => ((g22.alloc o).alloc o2).cell; have e_g22 := fun o => (g22.alloc o).free; replace B := B.trans (b.mono B.size); clear b
                  go_wp2
                  go_ret
                  exact ⟨rfl, B⟩
                · have n2 : (b.kind != 1) = true := by rw [bne_iff_ne]; exact hk1
                  clear hb hfr hk1
                  go_wp2_with fail
                  refine (FI.out _ (H.out.below B)).mono ?_
                  rintro e wa13 ⟨rfl, b⟩
                  replace B := B.trans (b.mono B.size); clear b
                  go_upto_region 26 with (fail)
                  refine wp_gen (fun Wv => Bx Wv (wa13.heap.size) (38) (#[.int .i64 b.at_, .int .i64 b.size, .int .i64 b.kind, .int .i64 b.ty, .bool b.mark, .int .u64 b.next.toNat]) ∧ Below wa13.heap.size wa13 Wv) ⟨((Bx.at_ (by simp))), ((Below.refl _ wa13).alloc (by simp <;> omega) _)⟩ ?_
                  rintro wa14 ⟨g22, b⟩
                  replace B := B.trans (b.mono B.size); clear b
                  have c_g22 := g22.cell; have f_g22 := g22.free; have a_g22 := fun o => (g22.alloc o).cell; have d_g22 := fun o o2 => ((g22.alloc o).alloc o2).cell; have e_g22 := fun o => (g22.alloc o).free
                  go_wp2
                  go_ret
                  exact ⟨rfl, B⟩
              · have n1 : (fr != 0) = true := by rw [bne_iff_ne]; exact hf0
                clear hb hfr hf0
                go_wp2_with fail
                refine (FI.out _ (H.out.below B)).mono ?_
                rintro e wa15 ⟨rfl, b⟩
                replace B := B.trans (b.mono B.size); clear b
                go_upto_region 26 with (fail)
                refine wp_gen (fun Wv => Bx Wv (wa15.heap.size) (38) (#[.int .i64 b.at_, .int .i64 b.size, .int .i64 b.kind, .int .i64 b.ty, .bool b.mark, .int .u64 b.next.toNat]) ∧ Below wa15.heap.size wa15 Wv) ⟨((Bx.at_ (by simp))), ((Below.refl _ wa15).alloc (by simp <;> omega) _)⟩ ?_
                rintro wa16 ⟨g22, b⟩
                replace B := B.trans (b.mono B.size); clear b
                have c_g22 := g22.cell; have f_g22 := g22.free; have a_g22 := fun o => (g22.alloc o).cell; have d_g22 := fun o o2 => ((g22.alloc o).alloc o2).cell; have e_g22 := fun o => (g22.alloc o).free
                go_wp2
                go_ret
                exact ⟨rfl, B⟩
end Go.Proofs.Ythlappdngpjdeaa
