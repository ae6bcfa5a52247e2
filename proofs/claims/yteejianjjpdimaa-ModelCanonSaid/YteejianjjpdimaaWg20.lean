/- The law ModelCanon holds: a canon is its own canon, numbers do not matter for it, and it has no object that is not reached. -/
import Derived.Test.YteejianjjpdimaaMCl
set_option maxRecDepth 100000
set_option maxHeartbeats 16000000
set_option linter.unusedVariables false
set_option linter.unusedSimpArgs false
namespace Go.Proofs.Yteejianjjpdimaa
open Go.RowKit L02 L13 L18 L20

theorem ModelCanon_walk (tv ov sv:Value) (m:Mo) (pv:Value) (L:List (Int×Int)) (w:World) (h:Mod w tv ov sv m) (hp:Hnds w pv L):
  Calls Try.prog 3 #[.agg #[tv,ov,sv],pv] w fun e w'=>e=.returned (.bool true)∧Below w.heap.size w w':=by
 have B:=Below.refl w.heap.size w;have hm:=h;obtain ⟨⟨tA,tn,tc,rfl⟩,⟨oA,on,oc,rfl⟩,⟨sA,sn,sc,rfl⟩⟩:=h.forms;obtain ⟨b,hb⟩:=exq (decide (¬Great m∧chk m=0))
 have FT:=hD (fit_any (.slice tA tn tc) (.slice oA on oc) (.slice sA sn sc) m b hb)
 have lo:=hm.o.len;have lp:=Rd.len hp Try.underlying27;obtain ⟨NO,hNO⟩:=exq m.objs.length;obtain ⟨NL,hNL⟩:=exq L.length;rw [←hNO] at lo;rw [←hNL] at lp;clear h;cases b
 ·clear hb hNO hNL hp;go_in;go_upto_region 1 with (fail)
  refine wpb1 (26) (#[.slice tA tn tc,.slice oA on oc,.slice sA sn sc]) ?_;rintro wa1 ⟨g1,b⟩
  replace hm:=hm.below b;replace B:=B.trans (b.mono B.size);clear b;replace c_g1:=g1.five;go_wp2_with fail;refine (alive20_any _).mono ?_;rintro e wa2 ⟨rfl,b⟩
  replace hm:=hm.below b;replace g1:=g1.below b;replace c_g1:=g1.five;replace B:=B.trans (b.mono B.size);clear b;go_wp2_with fail;refine (FT.out _ hm).mono ?_;rintro e wa3 ⟨rfl,b⟩
  replace hm:=hm.below b;replace g1:=g1.below b;replace c_g1:=g1.five;replace B:=B.trans (b.mono B.size);clear b;go_wp2
  go_ret
  exact ⟨rfl,B⟩
 ·obtain ⟨hng,hc⟩:=of_decide_eq_true hb.symm;have H:=hD hm;have HP:=hD hp;have HNO:=hD hNO;have HNL:=hD hNL;have HC:=hD hc;clear hb hng hc hNO hNL hp;by_cases h1:40<NO
  ·skip
   go_in;go_upto_region 1 with (fail)
   refine wpb1 (26) (#[.slice tA tn tc,.slice oA on oc,.slice sA sn sc]) ?_;rintro wa1 ⟨g1,b⟩
   replace hm:=hm.below b;replace B:=B.trans (b.mono B.size);clear b;replace c_g1:=g1.five;go_wp2_with fail;refine (alive20_any _).mono ?_;rintro e wa2 ⟨rfl,b⟩
   replace hm:=hm.below b;replace g1:=g1.below b;replace c_g1:=g1.five;replace B:=B.trans (b.mono B.size);clear b;go_wp2_with fail;refine (FT.out _ hm).mono ?_;rintro e wa3 ⟨rfl,b⟩
   replace hm:=hm.below b;replace g1:=g1.below b;replace c_g1:=g1.five;replace B:=B.trans (b.mono B.size);clear b;go_wp2
   go_ret
   exact ⟨rfl,B⟩
  by_cases h2:40<NL
  ·skip
   go_in;go_upto_region 1 with (fail)
   refine wpb1 (26) (#[.slice tA tn tc,.slice oA on oc,.slice sA sn sc]) ?_;rintro wa1 ⟨g1,b⟩
   replace hm:=hm.below b;replace B:=B.trans (b.mono B.size);clear b;replace c_g1:=g1.five;go_wp2_with fail;refine (alive20_any _).mono ?_;rintro e wa2 ⟨rfl,b⟩
   replace hm:=hm.below b;replace g1:=g1.below b;replace c_g1:=g1.five;replace B:=B.trans (b.mono B.size);clear b;go_wp2_with fail;refine (FT.out _ hm).mono ?_;rintro e wa3 ⟨rfl,b⟩
   replace hm:=hm.below b;replace g1:=g1.below b;replace c_g1:=g1.five;replace B:=B.trans (b.mono B.size);clear b;go_wp2
   go_ret
   exact ⟨rfl,B⟩
  clear hm;go_in;go_upto_region 1 with (fail)
  refine wpb1 (26) (#[.slice tA tn tc,.slice oA on oc,.slice sA sn sc]) ?_;rintro wa1 ⟨g1,b⟩
  replace B:=B.trans (b.mono B.size);clear b;replace c_g1:=g1.five;go_wp2_with fail;refine (alive20_any _).mono ?_;rintro e wa2 ⟨rfl,b⟩
  replace g1:=g1.below b;replace c_g1:=g1.five;replace B:=B.trans (b.mono B.size);clear b;go_wp2_with fail;refine (FT.out _ (H.out.below B)).mono ?_;rintro e wa3 ⟨rfl,b⟩
  replace g1:=g1.below b;replace c_g1:=g1.five;replace B:=B.trans (b.mono B.size);clear b;clear FT;have hz:=B.size;have hpl:=g1.lt;have HG:=hD (And.intro g1 B)
  clear g1 c_g1 B
  generalize hwA:wa3=WA at*
  clear hwA;have c_1:=HG.out.1.cell;go_wp2;clear c_1
  go_loopg [6,7] NO (fun gg nv i wr=>∃j:Nat,j≤NO∧gg=NO-j∧i=.int .i64 j∧Hid (OwnI wr WA.heap.size 3 nv (natI (List.range j))∧Below WA.heap.size WA wr))
  case atStart=>exact ⟨0,by omega,by omega,rfl,hD ⟨OwnI.nil _ _ _,Below.refl _ _⟩⟩
  case round=>
   obtain ⟨j,hj,rfl,rfl,hh⟩:=hrel;have bb:=hh.out.2;have c1:=(HG.out.1.below bb).cell;by_cases hlt:j<NO
   ·have HO:=hD hh.out.1;have HL:=hD (show (natI (List.range j)).length=j by simp [natI])
    have HBb:=hD bb;have HX:=hD (show (natI (List.range j)).map i64++[i64 (j:Int)]=(natI (List.range (j+1))).map i64 by simp [natI,List.range_succ])
    clear hh bb;go_wp2_with (at_builtin;refine wpList_append (by rfl) rfl rfl rfl Try.underlying30 info_int rfl (by omega) (by exact own_below HO.out ((Below.refl _ wr).alloc (Nat.le_refl _) _)) (by exact lit_rd) (by simp [Value.oneCell']) (by rw [HL.out];omega) (by rw [HL.out];omega) (by exact HBb.out.alloc HBb.out.size _) (Nat.le_refl _) ?_;intro v1 w1 hown1 hbel1 hv1;clear hv1)
    go_roundg (NO-(j+1))
    case measure=>omega
    case rel=>exact ⟨j+1,by omega,rfl,by go_num,hD ⟨OwnI.of hown1 HX.out,hbel1⟩⟩
   ·obtain rfl:j=NO:=by omega
    have HN0:=hD (And.intro hh.out.1 bb)
    have HNOj:=hD HNO.out;clear hh bb hlt hj h1;go_wp2;clear c1
    go_loopg [8] NL (fun gg i wr2=>∃k:Nat,k≤NL∧gg=NL-k∧i=.int .i64 k∧Hid (∃ns,Ren j ns∧OwnI wr2 WA.heap.size 3 u6 ns∧Below WA.heap.size WA wr2))
    case atStart=>exact ⟨0,by omega,by omega,rfl,hD ⟨_,Ren.id j,HN0.out⟩⟩
    case round=>
     clear HN0;obtain ⟨k,hk,rfl,rfl,hh⟩:=hrel;obtain ⟨ns,hren,ho,B⟩:=hh.out;clear hh;have ln:=Rd.len ho.rd Try.underlying30;rw [hren.len] at ln;by_cases hlt2:k<NL
     ·obtain ⟨pb,po,⟨a,c⟩,ix,m0,m1,hs⟩:=pair_at (HP.out.below (HG.out.2.trans (B.mono hz))) (k:=k) (by rw [←HNL.out];exact hlt2)
      dsimp only at m0 m1;have i0:=pair_ix0 pb po;have i1:=pair_ix1 pb po;clear hs;go_upto_region 12 with (fail)
      refine wp_region_calm (by kernel_rfl) (by kernel_rfl) ?_;have c_m0:=fun x:Fut _=>cell_later x.h m0;have c_m1:=fun x:Fut _=>cell_later x.h m1;repeat (go_big_quiet_step (fail))
      refine wpQuiet_nil ?_;intro _ hw';obtain ⟨xq,hw''⟩:=hw';subst hw'';clear c_m0;replace m0:=cell_later xq.h m0;clear c_m1;replace m1:=cell_later xq.h m1;replace ho:=ho.below xq.h;replace B:=B.trans (xq.h.mono B.size)
      clear m0 m1 ix i0 i1
      generalize xq.W=W5 at*
      have hcs:¬0≤a∨(0≤a∧¬0≤c)∨(0≤a∧0≤c∧¬a<j)∨(0≤a∧0≤c∧a<j∧¬c<j)∨(0≤a∧0≤c∧a<j∧c<j):=by omega
      rcases hcs with q1 | ⟨q1,q2⟩ | ⟨q1,q2,q3⟩ | ⟨q1,q2,q3,q4⟩ | ⟨q1,q2,q3,q4⟩
      case inr.inr.inr.inr=>
       obtain ⟨ka,rfl⟩:=Int.eq_ofNat_of_zero_le q1;obtain ⟨kb,rfl⟩:=Int.eq_ofNat_of_zero_le q2;have hka:ka<ns.length:=by rw [hren.len];omega
       have hkb:kb<ns.length:=by rw [hren.len];omega
       obtain ⟨gs,e1,ix1,mc1,mf1,hgB,hgl,st1⟩:=OwnI.put (w:=W5.drew) (B:=WA.heap.size) (E:=3) ho hka;obtain ⟨gs2,e2,ix2,mc2,mf2,_,_,_⟩:=OwnI.put (w:=W5.drew) (B:=WA.heap.size) (E:=3) ho hkb;obtain rfl:gs2=gs:=by rw [e1] at e2;injection e2 with e;exact e.symm
       obtain ⟨x,hx⟩:=exq (ns.getD ka 0)
       obtain ⟨y,hy⟩:=exq (ns.getD kb 0)
       rw [←hx] at mc1;rw [←hy] at mc2;obtain ⟨s1,_⟩:=st1 y;obtain ⟨gs3,e3,_,mc3,mf3,_,_,st3⟩:=OwnI.put s1 (k:=kb) (by rw [List.length_set];exact hkb)
       obtain rfl:gs3=gs2:=by rw [e1] at e3;injection e3 with e;exact e.symm
       obtain ⟨s2,_⟩:=st3 x;have hren2:=hren.swap (a:=ka) (b:=kb) (x:=x) (y:=y) (by rw [hx,List.getD_eq_getElem?_getD,List.getElem?_eq_getElem hka];rfl) (by rw [hy,List.getD_eq_getElem?_getD,List.getElem?_eq_getElem hkb];rfl)
       have BB:Below WA.heap.size WA (wsX W5 gs3 ka kb x y 2):=(B.drew.setCell (p:=⟨gs3,ka,none⟩) hgB _).setCell (p:=⟨gs3,kb,none⟩) hgB _;have HR:=hD (show Ren j ((ns.set ka y).set kb x)∧OwnI (wsX W5 gs3 ka kb x y 2) WA.heap.size 3 u6 ((ns.set ka y).set kb x)∧Below WA.heap.size WA (wsX W5 gs3 ka kb x y 2) from ⟨hren2,s2,BB⟩)
       have p0:(wsX W5 gs3 ka kb x y 0).cell? ⟨gs3,ka,none⟩=some (.int .i64 x):=mc1;have p1:(wsX W5 gs3 ka kb x y 0).cell? ⟨gs3,kb,none⟩=some (.int .i64 y):=mc2;have p2:(wsX W5 gs3 ka kb x y 0).frozen? ⟨gs3,ka,none⟩=false:=mf1;have p3:∃u,(wsX W5 gs3 ka kb x y 1).cell? ⟨gs3,kb,none⟩=some u:=⟨_,mc3⟩
       have p4:(wsX W5 gs3 ka kb x y 1).frozen? ⟨gs3,kb,none⟩=false:=mf3;obtain ⟨u3,p3⟩:=p3;have P0:=hD p0;have P1:=hD p1;have P2:=hD p2;have P3:=hD p3;have P4:=hD p4;clear p0 p1 p2 p3 p4 hren2 s1 s2 st1 st3 BB hx hy mc1 mc2 mc3 mf1 mf2 mf3 hren ho B e1 e2 e3 hka hkb;go_upto_region 14 with (fail)
       haveI:Nonempty (FXN (FS2 [13,15] [7,11] (wsX W5 gs3 ka kb x y))):=⟨⟨_,_,FS2.start⟩⟩
       refine wp_region_N (FS2 [13,15] [7,11] (wsX W5 gs3 ka kb x y)) [7,11,13,15] FS2.dep (by kernel_rfl) (by kernel_rfl) (by kernel_rfl) FS2.start ?_;iterate 7 (refine wpN_read FS2.dep rfl (by decide) ?_;go_big_quiet_step (fail);refine wpQuiet_nil ?_)
       refine wpN_step FS2.dep rfl (by rfl) (v:=.int .i64 y) [] rfl (fun f W hF h0 _=>?_) ?_
       ·obtain ⟨rfl,hF'⟩:=FS2.read (r:=7) (by decide) (by decide) hF h0;refine ⟨_,?_,hF'⟩
        have p1:=P1.out;simp [execOp,go_sem,p1]
       simp only [Act.put,List.setIfInBounds_toArray,List.set_cons_zero,List.set_cons_succ]
       iterate 3 (refine wpN_read FS2.dep rfl (by decide) ?_;go_big_quiet_step (fail);refine wpQuiet_nil ?_)
       refine wpN_step FS2.dep rfl (by rfl) (v:=.int .i64 x) [] rfl (fun f W hF h0 _=>?_) ?_
       ·obtain ⟨rfl,hF'⟩:=FS2.read (r:=11) (by decide) (by decide) hF h0;refine ⟨_,?_,hF'⟩
        have p0:=P0.out;simp [execOp,go_sem,p0]
       simp only [Act.put,List.setIfInBounds_toArray,List.set_cons_zero,List.set_cons_succ]
       iterate 1 (refine wpN_read FS2.dep rfl (by decide) ?_;go_big_quiet_step (fail);refine wpQuiet_nil ?_)
       refine wpN_storeD FS2.dep rfl 3 (.tmp 94) (.tmp 89) rfl (by rfl) (p:=.pointer (some ⟨gs3,ka,none⟩)) (u:=.int .i64 y) (by rfl) (by rfl) [7,11] (by kernel_rfl) (fun f W' hF h0 h1=>?_) ?_
       ·obtain ⟨rfl,h2⟩:=FS2.step (i:=0) rfl (by decide) (by decide) hF h0 (by intro p hp;omega) (fun _=>h1)
        exact ⟨_,store_int (by kernel_rfl) _ _ _ _ _ P0.out P2.out,h2⟩
       simp only [Act.put,List.setIfInBounds_toArray,List.set_cons_zero,List.set_cons_succ]
       iterate 1 (refine wpN_read FS2.dep rfl (by decide) ?_;go_big_quiet_step (fail);refine wpQuiet_nil ?_)
       refine wpN_storeD FS2.dep rfl 3 (.tmp 95) (.tmp 93) rfl (by rfl) (p:=.pointer (some ⟨gs3,kb,none⟩)) (u:=.int .i64 x) (by rfl) (by rfl) [13] (by kernel_rfl) (fun f W' hF h0 h1=>?_) ?_
       ·obtain ⟨rfl,h2⟩:=FS2.step (i:=1) rfl (by decide) (by decide) hF h0 (FS2.prev rfl (h1 13 (by simp))) (by omega)
        exact ⟨_,store_int (by kernel_rfl) _ _ _ _ _ P3.out P4.out,h2⟩
       simp only [Act.put,List.setIfInBounds_toArray,List.set_cons_zero,List.set_cons_succ]
       show ∀w',_→_;intro w' hw';obtain rfl:=FS2.done hw';have hW:wsX W5 gs3 ka kb x y ([13,15]:List Nat).length=wsX W5 gs3 ka kb x y 2:=rfl;rw [hW]
       clear hw' hW P0 P1 P2 P3 P4 this
       generalize wsX W5 gs3 ka kb x y 2=V at HR ⊢
       go_wp2
       go_roundg (NL-(k+1))
       case measure=>omega
       case rel=>exact ⟨k+1,by omega,rfl,by go_num,hD ⟨_,HR.out⟩⟩
      all_goals
       have HR:=hD (And.intro hren (And.intro ho B))
       clear hren ho B;go_wp2
       go_roundg (NL-(k+1))
       case measure=>omega
       case rel=>exact ⟨k+1,by omega,rfl,by go_num,hD ⟨ns,HR.out⟩⟩
     ·obtain rfl:k=NL:=by omega
      obtain ⟨g1,B0⟩:=HG.out;have hc:=HC.out;obtain ⟨out,hrs⟩:=reach_ex hc;have hRe:=Reach.of hc hrs;obtain ⟨out2,c2,r2,e2,l2,l3⟩:=can_can hc hRe;have hren':Ren m.objs.length ns:=by rw [←HNO.out];exact hren
      obtain ⟨out1,c1',r1,e1'⟩:=ren_can hren' hc hRe;have NT:=hD (Numbered_any (.slice tA tn tc) (.slice oA on oc) (.slice sA sn sc) u6 m ns hc (hren'.ok hc))
      have CAx:=fun t o s w h=>Canon20_any t o s m hc out hRe.rs w h;have CBx:=fun t o s w h=>Canon20_any t o s (numM m ns) c1' out1 r1.rs w h;rw [e1'] at CBx;have CCx:=fun t o s w h=>Canon20_any t o s (canM m out) c2 out2 r2.rs w h;rw [e2] at CCx;have FXx:=fun t o s w h=>Found_any t o s (canM m out) c2 out2 r2.rs w h;have FMx:=fun t o s w h=>Found_any t o s m hc out hRe.rs w h;have KXx:=fun t o s w h=>CheckR20_any t o s (canM m out) 0 c2.symm w h;obtain ⟨X,hX⟩:=exq (canM m out)
      obtain ⟨K,hK⟩:=exq out.length;rw [←hX] at CAx CBx CCx FXx KXx l3;rw [←hK] at l2 l3;have SM:=hD (fun ta oa sa tb ob sb w ha hb=>Same20_any ta oa sa tb ob sb X X true (by simp) w ha hb)
      have CA:=hD CAx;have CB:=hD CBx;have CC:=hD CCx;have FX:=hD FXx;have FM:=hD FMx;have KX:=hD KXx;have L2:=hD l2;have L3:=hD l3;have HK:=hD hK;have hn:=ho.rd;replace g1:=g1.below B;have B:=B0.trans (B.mono hz)
      clear HG HNO HNOj HC hc hrs hRe c2 r2 e2 l2 l3 hren' c1' r1 e1' CAx CBx CCx FXx FMx KXx hX hK hren ho B0 ln lo hk h2;replace c_g1:=g1.five;go_wp2_with fail;refine (CA.out _ _ _ _ (H.out.below B)).mono ?_;rintro e wa4 ⟨t1,o1,s1,rfl,k1,b⟩
      replace g1:=g1.below b;replace c_g1:=g1.five;replace hn:=hn.below b;replace B:=B.trans (b.mono B.size);clear b;obtain ⟨⟨t1A,t1n,t1c,rfl⟩,⟨o1A,o1n,o1c,rfl⟩,⟨s1A,s1n,s1c,rfl⟩⟩:=k1.forms;go_upto_region 16 with (fail)
      refine wpb1 (26) (#[.slice t1A t1n t1c,.slice o1A o1n o1c,.slice s1A s1n s1c]) ?_;rintro wa5 ⟨g2,b⟩
      replace g1:=g1.below b;replace c_g1:=g1.five;replace hn:=hn.below b;replace k1:=k1.below b;replace B:=B.trans (b.mono B.size);clear b;replace c_g2:=g2.five;go_wp2_with fail;refine (NT.out _ (H.out.below B) hn).mono ?_;rintro e wa6 ⟨t2,o2,s2,rfl,om,b⟩
      replace g1:=g1.below b;replace c_g1:=g1.five;replace hn:=hn.below b;replace k1:=k1.below b;replace g2:=g2.below b;replace c_g2:=g2.five;replace B:=B.trans (b.mono B.size);clear b;have k2:=om.rd;clear om NT hn;obtain ⟨⟨t2A,t2n,t2c,rfl⟩,⟨o2A,o2n,o2c,rfl⟩,⟨s2A,s2n,s2c,rfl⟩⟩:=k2.forms;go_wp2_with fail;refine (CB.out _ _ _ _ k2).mono ?_;rintro e wa7 ⟨t3,o3,s3,rfl,k3,b⟩
      replace g1:=g1.below b;replace c_g1:=g1.five;replace g2:=g2.below b;replace c_g2:=g2.five;replace k1:=k1.below b;replace k2:=k2.below b;replace B:=B.trans (b.mono B.size);clear b;obtain ⟨⟨t3A,t3n,t3c,rfl⟩,⟨o3A,o3n,o3c,rfl⟩,⟨s3A,s3n,s3c,rfl⟩⟩:=k3.forms;go_upto_region 17 with (fail)
      refine wpb1 (26) (#[.slice t3A t3n t3c,.slice o3A o3n o3c,.slice s3A s3n s3c]) ?_;rintro wa8 ⟨g3,b⟩
      replace g1:=g1.below b;replace c_g1:=g1.five;replace g2:=g2.below b;replace c_g2:=g2.five;replace k1:=k1.below b;replace k2:=k2.below b;replace k3:=k3.below b;replace B:=B.trans (b.mono B.size);clear b;replace c_g3:=g3.five;go_wp2_with fail;refine (CC.out _ _ _ _ k1).mono ?_;rintro e wa9 ⟨t4,o4,s4,rfl,k4,b⟩
      replace g1:=g1.below b;replace c_g1:=g1.five;replace g2:=g2.below b;replace c_g2:=g2.five;replace k1:=k1.below b;replace k2:=k2.below b;replace k3:=k3.below b;replace g3:=g3.below b;replace c_g3:=g3.five;replace B:=B.trans (b.mono B.size);clear b;obtain ⟨⟨t4A,t4n,t4c,rfl⟩,⟨o4A,o4n,o4c,rfl⟩,⟨s4A,s4n,s4c,rfl⟩⟩:=k4.forms;go_upto_region 18 with (fail)
      refine wpb1 (26) (#[.slice t4A t4n t4c,.slice o4A o4n o4c,.slice s4A s4n s4c]) ?_;rintro wa10 ⟨g4,b⟩
      replace g1:=g1.below b;replace c_g1:=g1.five;replace g2:=g2.below b;replace c_g2:=g2.five;replace k1:=k1.below b;replace k2:=k2.below b;replace k3:=k3.below b;replace g3:=g3.below b;replace c_g3:=g3.five;replace k4:=k4.below b;replace B:=B.trans (b.mono B.size);clear b;replace c_g4:=g4.five;clear k2 c_g1 c_g2 c_g3 c_g4;have lnO:=k1.o.len;rw [L3.out] at lnO;have hm:=H.out.below B;have hzB:=B.size;clear L3 CA CB CC HP HNL lp
      generalize hWB:wa10=WB at*
      clear hWB;have c_1:=fun x:Fut WB=>(g1.below x.h).cell;have c_2:=fun x:Fut WB=>(g2.below x.h).cell;have c_3:=fun x:Fut WB=>(g3.below x.h).cell;have c_4:=fun x:Fut WB=>(g4.below x.h).cell;have HGG:=hD (And.intro k1 (And.intro k3 (And.intro k4 hm)))
      clear k1 k3 k4 hm g1 g2 g3 g4;refine wp_region_ftail 46 [16,21,25,30,42] (fun _=>[]) (VCan K) (fun _ _ _=>True) (by kernel_rfl) (by kernel_rfl) (by kernel_rfl) (fun _ _ _ _ _ _ _=>trivial) (fun _ _ _ _ _ _ _=>trivial) (fun k _=>VCan.ex (VCan.len K) k) ?_;intro gg hv;have v16:=(hv 16 (by simp)).1 (.inl rfl)
      have v21:=(hv 21 (by simp)).1 (.inr rfl)
      have v25:=(hv 25 (by simp)).2.1 rfl;have v30:=(hv 30 (by simp)).2.2 (.inl rfl)
      have v42:=(hv 42 (by simp)).2.2 (.inr rfl)
      clear hv;simp only [List.take_succ_cons,List.take_zero,List.drop_succ_cons,List.drop_zero]
      iterate 16 (refine wpH_read0 rfl rfl ?_;go_big_quiet_step (fail);refine wpQuiet_nil ?_)
      refine wpH_new rfl rfl (TS.call (av:=#[.agg #[.slice t1A t1n t1c,.slice o1A o1n o1c,.slice s1A s1n s1c],.agg #[.slice t3A t3n t3c,.slice o3A o3n o3c,.slice s3A s3n s3c]]) (by simp [Act.eval]) (fun W=>enter_Same20 _ _ W) ?_) ?_
      ·intro W hW _;refine (SM.out _ _ _ _ _ _ W (HGG.out.1.below hW) (HGG.out.2.1.below hW)).mono ?_;rintro e W' ⟨rfl,bb⟩
       exact ⟨_,rfl,⟨fun _=>rfl,fun h=>by omega,fun h=>by omega⟩,bb,fun _ _ _=>trivial⟩
      rw [v16]
      simp only [Act.put,List.setIfInBounds_toArray,List.set_cons_zero,List.set_cons_succ]
      iterate 4 (refine wpH_read0 rfl rfl ?_;go_big_quiet_step (fail);refine wpQuiet_nil ?_)
      refine wpH_new rfl rfl (TS.call (av:=#[.agg #[.slice t1A t1n t1c,.slice o1A o1n o1c,.slice s1A s1n s1c],.agg #[.slice t4A t4n t4c,.slice o4A o4n o4c,.slice s4A s4n s4c]]) (by simp [Act.eval]) (fun W=>enter_Same20 _ _ W) ?_) ?_
      ·intro W hW _;refine (SM.out _ _ _ _ _ _ W (HGG.out.1.below hW) (HGG.out.2.2.1.below hW)).mono ?_;rintro e W' ⟨rfl,bb⟩
       exact ⟨_,rfl,⟨fun _=>rfl,fun h=>by omega,fun h=>by omega⟩,bb,fun _ _ _=>trivial⟩
      rw [v21]
      simp only [Act.put,List.setIfInBounds_toArray,List.set_cons_zero,List.set_cons_succ]
      iterate 3 (refine wpH_read0 rfl rfl ?_;go_big_quiet_step (fail);refine wpQuiet_nil ?_)
      refine wpH_new rfl rfl (TS.call (av:=#[.agg #[.slice t1A t1n t1c,.slice o1A o1n o1c,.slice s1A s1n s1c]]) (by simp [Act.eval]) (fun W=>enter_Check20 _ W) ?_) ?_
      ·intro W hW _;refine (KX.out _ _ _ W (HGG.out.1.below hW)).mono ?_;rintro e W' ⟨rfl,bb⟩
       exact ⟨_,rfl,⟨fun h=>by omega,fun _=>rfl,fun h=>by omega⟩,bb,fun _ _ _=>trivial⟩
      rw [v25]
      simp only [Act.put,List.setIfInBounds_toArray,List.set_cons_zero,List.set_cons_succ]
      iterate 4 (refine wpH_read0 rfl rfl ?_;go_big_quiet_step (fail);refine wpQuiet_nil ?_)
      refine wpH_new rfl rfl (TS.call (av:=#[.agg #[.slice t1A t1n t1c,.slice o1A o1n o1c,.slice s1A s1n s1c]]) (by simp [Act.eval]) (fun W=>enter_Found20 _ W) ?_) ?_
      ·intro W hW _;refine (FX.out _ _ _ W (HGG.out.1.below hW)).mono ?_;rintro e W' ⟨v,rfl,oi,bb⟩
       exact ⟨_,rfl,⟨fun h=>by omega,fun h=>by omega,fun _ ty V=>by have:=Rd.len oi.rd Try.underlying30 ty V;rw [natI_len,L2.out] at this;exact this⟩,bb,fun _ _ _=>trivial⟩
      simp only [Act.put,List.setIfInBounds_toArray,List.set_cons_zero,List.set_cons_succ]
      refine wpH_pure rfl rfl (v:=.int .i64 (K:Int)) (fun W=>by simp [execOp,resolve,invoke,builtin,Act.eval,go_sem,v30]) ?_;simp only [Act.put,List.setIfInBounds_toArray,List.set_cons_zero,List.set_cons_succ]
      iterate 2 (refine wpH_read0 rfl rfl ?_;go_big_quiet_step (fail);refine wpQuiet_nil ?_)
      refine wpH_pure rfl rfl (v:=.int .i64 (K:Int)) (fun W=>by simp [execOp,resolve,invoke,builtin,Act.eval,go_sem,lnO]) ?_;simp only [Act.put,List.setIfInBounds_toArray,List.set_cons_zero,List.set_cons_succ]
      iterate 5 (refine wpH_read0 rfl rfl ?_;go_big_quiet_step (fail);refine wpQuiet_nil ?_)
      refine wpH_pure rfl rfl (v:=.int .i64 (K:Int)) (fun W=>by simp [execOp,resolve,invoke,builtin,Act.eval,go_sem,lnO]) ?_;simp only [Act.put,List.setIfInBounds_toArray,List.set_cons_zero,List.set_cons_succ]
      iterate 1 (refine wpH_read0 rfl rfl ?_;go_big_quiet_step (fail);refine wpQuiet_nil ?_)
      refine wpH_new rfl rfl (TS.call (av:=#[.agg #[.slice tA tn tc,.slice oA on oc,.slice sA sn sc]]) (by simp [Act.eval]) (fun W=>enter_Found20 _ W) ?_) ?_
      ·intro W hW _;refine (FM.out _ _ _ W (HGG.out.2.2.2.below hW)).mono ?_;rintro e W' ⟨v,rfl,oi,bb⟩
       exact ⟨_,rfl,⟨fun h=>by omega,fun h=>by omega,fun _ ty V=>by have:=Rd.len oi.rd Try.underlying30 ty V;rw [natI_len,←HK.out] at this;exact this⟩,bb,fun _ _ _=>trivial⟩
      simp only [Act.put,List.setIfInBounds_toArray,List.set_cons_zero,List.set_cons_succ]
      refine wpH_pure rfl rfl (v:=.int .i64 (K:Int)) (fun W=>by simp [execOp,resolve,invoke,builtin,Act.eval,go_sem,v42]) ?_;simp only [Act.put,List.setIfInBounds_toArray,List.set_cons_zero,List.set_cons_succ]
      iterate 2 (refine wpH_read0 rfl rfl ?_;go_big_quiet_step (fail);refine wpQuiet_nil ?_)
      refine wpH_nil ?_;intro W3 bW _;replace B:=B.trans (bW.mono hzB)
      clear c_1 c_2 c_3 c_4 v30 v42 lnO bW hzB v16 v21 v25;go_wp2
      go_ret
      exact ⟨rfl,B⟩
end Go.Proofs.Yteejianjjpdimaa
