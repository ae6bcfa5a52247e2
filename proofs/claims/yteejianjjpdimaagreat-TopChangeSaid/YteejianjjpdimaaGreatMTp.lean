/- Contracts of the functions that the laws 'T' reach, part 16. No condition. -/
import Derived.Test.YteejianjjpdimaaGreatMTo
set_option linter.unusedVariables false
set_option linter.unusedSimpArgs false
set_option maxRecDepth 100000
set_option maxHeartbeats 8000000
namespace Go.Proofs.YteejianjjpdimaaGreat
section
open Go.RowKit L02 L13 L18 L20
structure GCopy where
 y:Value
 W1:World
 v:Value
 W3:World
theorem enter_CloneB (x:Value) (W:World):(callFunc 86 (#[]++#[x]++#[])).run Tryz.prog W=.ok (.enter 86 #[x]) W:=by
 simp [go_sem]
def wsT (w:World) (p:Nat) (g:GCopy):Nat→World
 | 0=>w.drew
 | 1=>g.W1
 | 2=>g.W1.alloc (.cells #[g.y] 66)
 | 3=>g.W3
 | _=>g.W3.setCell ⟨p,0,none⟩ g.v
theorem enter_CloneW (x:Value) (W:World):(callFunc 16 (#[]++#[x]++#[])).run Tryz.prog W=.ok (.enter 16 #[x]) W:=by
 simp [go_sem]
def wsO (w:World) (p:Nat) (ty:Int) (g:GCopy):Nat→World
 | 0=>w.drew
 | 1=>g.W1
 | 2=>g.W1
 | 3=>g.W1.alloc (.cells #[i64 ty,g.y] 68)
 | 4=>g.W3
 | _=>g.W3.setCell ⟨p,1,none⟩ g.v
theorem copied_any (tv ov sv:Value) (m:Mo) (hsm:Small m) (w:World) (h:Mod w tv ov sv m):
  Calls Tryz.prog 38 #[.agg #[tv,ov,sv]] w fun e w'=>∃tv' ov' sv',e=.returned (.agg #[tv',ov',sv'])∧OwnM w' w.heap.size 37 tv' ov' sv' m∧Below w.heap.size w w':=by
 have B:=Below.refl w.heap.size w;have lt:=h.t.len;have lo:=h.o.len;obtain ⟨NT,hNT⟩:=exq m.types.length;obtain ⟨NO,hNO⟩:=exq m.objs.length;rw [←hNT] at lt;rw [←hNO] at lo;obtain ⟨s1,s2,s3,s4,s5⟩:=hsm;have CS:=hD (CloneS_any sv m.slots (by omega))
 have hNT20:NT≤20:=by omega
 have hNO962:NO≤962:=by omega
 have H:=hD h;have HNT:=hD hNT;have HNO:=hD hNO;have S4:=hD s4;have S5:=hD s5;clear h hNT hNO s4 s5 s1 s2 s3;go_in;go_upto_region 1 with (fail)
 refine wpb11 (31) (#[tv,ov,sv]) (31) (#[.slice none 0 0,.slice none 0 0,.slice none 0 0]) ?_;rintro wa1 ⟨g1,g2,b⟩
 replace B:=B.trans (b.mono B.size);clear b;replace c_g1:=g1.five;replace c_g2:=g2.five;have hz1:=B.size;go_wp2_with fail;refine (CS.out _ (H.out.s.below B)).mono ?_;rintro e wa2 ⟨ys,rfl,oS,b⟩
 replace g1:=g1.below b;replace c_g1:=g1.five;replace g2:=g2.below b;replace c_g2:=g2.five;replace B:=B.trans (b.mono B.size);clear b;obtain ⟨yA,yn,yc,rfl⟩:∃A n c,ys=.slice A n c:=by obtain ⟨A,c,e⟩:=own_form' oS;exact ⟨A,_,c,e⟩
 have hq1:=g1.lt;have hq2:=g2.lt;have hp0:=B.size;replace oS:OwnS _ w.heap.size 37 _ m.slots:=own_mono oS hz1;go_upto_region 2 with (fail)
 refine wpb1 (31) (#[.slice none 0 0,.slice none 0 0,.slice yA yn yc]) ?_;rintro wa3 ⟨g3,b⟩
 replace g1:=g1.below b;replace c_g1:=g1.five;replace g2:=g2.below b;replace c_g2:=g2.five;replace oS:=oS.below b;replace B:=B.trans (b.mono B.size);clear b;replace c_g3:=g3.five
 generalize wa2.heap.size=p at*
 have HB:=hD B;have HG:=hD (And.intro g1 (And.intro g2 (And.intro g3 oS)))
 clear B g1 g2 g3 oS c_g1 c_g2 c_g3;have hwa:=HG.out.1.cell;go_wp2;clear hwa
 go_loopg [15] NT (fun g i wr=>∃j:Nat,j≤NT∧g=NT-j∧i=.int .i64 j∧Hid (∃xt,OwnT wr w.heap.size xt (m.types.take j)∧Bx wr w.heap.size 31 #[tv,ov,sv]∧Bx wr (w.heap.size+1) 31 #[.slice none 0 0,.slice none 0 0,.slice none 0 0]∧Bx wr p 31 #[xt,.slice none 0 0,.slice yA yn yc]∧OwnS wr w.heap.size 37 (.slice yA yn yc) m.slots∧Below w.heap.size w wr))
 case atStart=>exact ⟨0,by omega,by omega,rfl,hD ⟨_,OwnT.nil _ _,HG.out.1,HG.out.2.1,HG.out.2.2.1,HG.out.2.2.2,HB.out⟩⟩
 case round=>
  clear HG HB;obtain ⟨j,hj,rfl,rfl,hh⟩:=hrel;by_cases hlt:j<NT
  ·obtain ⟨xt,oT,q1,q2,q3,oS,B⟩:=hh.out;obtain ⟨ad,x,t,ix,m0,ht,hby⟩:=(H.out.t.below B).at_ (k:=j) (by have:=HNT.out;omega)
   have htl:t.length≤20:=S4.out t (List.mem_of_getElem? ht.out)
   have CB:=hD (CloneB_any x t (by omega))
   obtain ⟨vs,z1,z2,z4⟩:=oT;have hB:=B.size;have htk:(m.types.take j).length=j:=by rw [List.length_take];have:=HNT.out;omega
   go_upto_region 5 with (fail)
   have HT:=hD ht;have HQ:=hD (And.intro q1 (And.intro q2 (And.intro q3 (And.intro oS (And.intro B (And.intro z1 (And.intro z2 z4)))))))
   have c3:=q3.cell;refine wp_region_G (val:=GCopy.y) (V:=fun g=>OwnB g.W1 wr.heap.size 5 g.y t∧Below wr.heap.size wr g.W1∧(Builtin.append_ #[27,27] 27 #[xt,.slice (some ⟨g.W1.heap.size,0,none⟩) 1 1]).run Tryz.prog (g.W1.alloc (.cells #[g.y] 66))=.ok g.v g.W3∧
     g.W3.ownsRow w.heap.size 66 1 g.v (j+1) (vs++[g.y])∧(g.W1.alloc (.cells #[g.y] 66)).grownBy g.W3 xt.ownBlock)
    (F:=fun g=>FL [3,4,5,7] (wsT wr p g) 1 2) [1,3,4,5,7] 3 ⟨undef,wr,undef,wr⟩ 86 #[x] (fun g=>FL.dep) (by kernel_rfl) (by kernel_rfl) (by kernel_rfl) (fun g g' φ W hφ hF=>FL.agree (Ws:=wsT wr p g) (Ws':=wsT wr p g') (k0:=3) rfl rfl hφ hF) FL.start (by decide) ?_ ?_
   ·intro φ W hφ hF;obtain ⟨rfl,_⟩:=FL.step (i:=0) rfl (by decide) hF hφ (by intro p hp;omega) (by omega)
    refine (CB.out wr.drew hby.out).mono ?_;rintro e W1 ⟨y,rfl,oy,b1⟩
    have b1':Below wr.heap.size wr W1:=(Below.refl _ wr).drew.trans b1;have hz:=b1'.size;obtain ⟨v,W3,r1,r2,r3⟩:=run_append_rd (P:=Tryz.prog) (w:=W1.alloc (.cells #[y] 66)) (ty:=27) (B:=w.heap.size) Tryz.underlying27 info_bytes rfl (by omega) (own_below z2 (b1'.alloc hz _)) lit_rd (by intro u hu;simp at hu;subst hu;exact (OwnB.rd oy).oneCell) (by omega) (by omega) (by simp;omega)
    rw [htk] at r2;have hF':=FL.agree (Ws:=wsT wr p ⟨undef,wr,undef,wr⟩) (Ws':=wsT wr p ⟨y,W1,v,W3⟩) (k0:=3) rfl rfl hφ hF;exact ⟨⟨y,W1,v,W3⟩,⟨oy,b1',r1,r2,r3⟩,rfl,(FL.step (i:=0) rfl (by decide) hF' hφ (by intro p hp;omega) (by omega)).2⟩
   ·rintro ⟨y,W1,v,W3⟩ ⟨oy,b1,r1,r2,r3⟩
    dsimp only at oy b1 r1 r2 r3 ⊢;obtain ⟨q1,q2,q3,oS,B,z1,z2,z4⟩:=HQ.out;have MM:=hD (copyT_mem (t:=t) (a:=w.heap.size) (b:=w.heap.size+1) (p:=p) z1 z2 z4 oy b1 r2 r3 q1 q2 q3 oS B hB (by omega) (by omega) (by omega) (Nat.le_refl _))
    obtain ⟨yyA,yyn,yyc,rfl⟩:∃A n c,y=.slice A n c:=by obtain ⟨A,c,e⟩:=own_form' oy;exact ⟨A,_,c,e⟩
    obtain ⟨vA,vn,vc,rfl⟩:∃A n c,v=.slice A n c:=by obtain ⟨A,c,e⟩:=own_form' r2;exact ⟨A,_,c,e⟩
    have b1c:=(q3.below b1).cell 0;have b2c:=((q3.below b1).alloc (.cells #[.slice yyA yyn yyc] 66)).cell 0;have b0c:=(q3.below (Below.refl _ wr).drew).cell 0
    haveI:Nonempty (FXN (FL [3,4,5,7] (wsT wr p ⟨.slice yyA yyn yyc,W1,.slice vA vn vc,W3⟩) 1 2)):=⟨⟨_,_,FL.start⟩⟩
    refine wpG_read FL.dep rfl (by decide) (by decide) ?_;go_big_quiet_step (fail);refine wpQuiet_nil ?_
    refine wpG_step FL.dep (by decide) rfl (by rfl) (v:=xt) [] rfl (fun f W hF h0 _=>?_) ?_
    ·obtain ⟨⟨d,hd,hd2,rfl⟩,hF'⟩:=FL.read (by decide) hF h0;refine ⟨_,?_,hF'⟩
     have hc:(wsT wr p ⟨.slice yyA yyn yyc,W1,.slice vA vn vc,W3⟩ d).cell? ⟨p,0,none⟩=some xt:=by
      rcases d with _ | _ | _ | d
      ·exact b0c
      ·exact b1c
      ·exact b2c
      ·omega
     simp [execOp,go_sem,hc]
    simp only [Act.put,List.setIfInBounds_toArray,List.set_cons_zero,List.set_cons_succ]
    refine wpG_read FL.dep rfl (by decide) (by decide) ?_;go_big_quiet_step (fail);refine wpQuiet_nil ?_
    refine wpG_call #[x] rfl (by simp [Act.eval]) (enter_CloneB x) ?_;simp only [Act.put,List.setIfInBounds_toArray,List.set_cons_zero,List.set_cons_succ]
    refine wpG_step FL.dep (by decide) rfl (by rfl) (v:=.slice (some ⟨W1.heap.size,0,none⟩) 1 1) [3] (by kernel_rfl) (fun f W hF h0 h1=>?_) ?_
    ·obtain ⟨rfl,h2⟩:=FL.step (i:=1) rfl (by decide) hF h0 (FL.prev (p:=0) (q:=3) rfl (h1 3 (by simp))) (by omega)
     refine ⟨_,?_,h2⟩
     simp [execOp,go_sem,wsT]
    simp only [Act.put,List.setIfInBounds_toArray,List.set_cons_zero,List.set_cons_succ]
    refine wpG_step FL.dep (by decide) rfl (by rfl) (v:=.slice vA vn vc) [4,1] (by kernel_rfl) (fun f W hF h0 h1=>?_) ?_
    ·obtain ⟨rfl,h2⟩:=FL.step (i:=2) rfl (by decide) hF h0 (FL.prev (p:=1) (q:=4) rfl (h1 4 (by simp))) (fun _=>h1 1 (by simp))
     exact ⟨_,by simp [execOp,resolve,invoke,builtin,Act.eval,wsT,r1],h2⟩
    simp only [Act.put,List.setIfInBounds_toArray,List.set_cons_zero,List.set_cons_succ]
    refine wpG_read FL.dep rfl (by decide) (by decide) ?_;go_big_quiet_step (fail);refine wpQuiet_nil ?_
    refine wpG_store FL.dep (by decide) rfl 27 (.tmp 25) (.tmp 24) rfl (by rfl) (p:=.pointer (some ⟨p,0,none⟩)) (u:=.slice vA vn vc) (by rfl) (by rfl) [5] (by kernel_rfl) (fun f W hF h0 h1=>?_) ?_
    ·obtain ⟨rfl,h2⟩:=FL.step (i:=3) rfl (by decide) hF h0 (FL.prev (p:=2) (q:=5) rfl (h1 5 (by simp))) (by omega)
     refine ⟨_,?_,h2⟩
     have hc:=MM.out.1.1;have hf:=MM.out.1.2;simp [go_sem,wsT,hc,hf]
    refine wpG_nil ?_;intro w' hw';obtain rfl:=FL.done hw';have HM:=hD (MM.out.2)
    clear this MM HQ q1 q2 q3 oS B z1 z2 z4 b1c b2c b0c hw' r1 r2 r3 oy b1 c3;go_wp2
    go_roundg (NT-(j+1))
    case measure=>omega
    case rel=>
     refine ⟨j+1,by omega,rfl,by go_num,hD ⟨_,?_,HM.out.2⟩⟩
     have:=HM.out.1
     rwa [List.take_add_one,HT.out.out]
  ·obtain rfl:j=NT:=by omega
   obtain ⟨xt,oT,q1,q2,q3,oS,B⟩:=hh.out;rw [List.take_of_length_le (by have:=HNT.out;omega)] at oT;clear hh;have hwa:=q1.cell;have HG:=hD (And.intro q1 (And.intro q2 (And.intro q3 (And.intro oT oS))));have HB:=hD B;clear q1 q2 q3 oT oS B;go_wp2;clear hwa
   go_loopg [30] NO (fun g i wr=>∃k:Nat,k≤NO∧g=NO-k∧i=.int .i64 k∧Hid (∃ot,OwnO wr w.heap.size ot (m.objs.take k)∧Bx wr w.heap.size 31 #[tv,ov,sv]∧Bx wr (w.heap.size+1) 31 #[.slice none 0 0,.slice none 0 0,.slice none 0 0]∧Bx wr p 31 #[xt,ot,.slice yA yn yc]∧OwnT wr w.heap.size xt m.types∧OwnS wr w.heap.size 37 (.slice yA yn yc) m.slots∧Below w.heap.size w wr))
   case atStart=>exact ⟨0,by omega,by omega,rfl,hD ⟨_,OwnO.nil _ _,HG.out.1,HG.out.2.1,HG.out.2.2.1,HG.out.2.2.2.1,HG.out.2.2.2.2,HB.out⟩⟩
   case round=>
    clear HG HB;obtain ⟨k,hk,rfl,rfl,hh⟩:=hrel;by_cases hltk:k<NO
    ·obtain ⟨ot,oO,q1,q2,q3,oT,oS,B⟩:=hh.out;obtain ⟨ob,oq,x,o,ix,m0,m1,ho,hx,hob⟩:=(H.out.o.below B).at_ (k:=k) (by have:=HNO.out;omega)
     have hol:o.fs.length≤20:=S5.out o (List.mem_of_getElem? ho.out)
     have CW:=hD (CloneW_any x o.fs (by omega))
     have hxx:=hx.out;have hlt0:ot.ownBlock=none∨ot.ownBlock≠some wr.heap.size:=by
      obtain ⟨vs,z1,z2,_⟩:=oO;cases hob:ot.ownBlock with
      | none=>exact .inl rfl
      | some g=>have:=(z2.lt g hob).2;exact .inr (by simp;omega)
     have hpl:=q3.lt;have htk:(m.objs.take k).length=k:=by rw [List.length_take];have:=HNO.out;omega
     obtain ⟨xA,xn,xc,rfl⟩:∃A n c,x=.slice A n c:=by obtain ⟨A,c,e,_⟩:=hxx;exact ⟨A,_,c,e⟩
     clear hh hx;go_upto_region 10 with (fail)
     refine wpb1 (68) (#[.int .i64 o.ty,.slice xA xn xc]) ?_;rintro wa1 ⟨g4,b⟩
     replace q1:=q1.below b;replace q2:=q2.below b;replace q3:=q3.below b;replace oT:=oT.below b;replace oS:=oS.below b;replace oO:=oO.below b;replace hxx:=hxx.below b;replace B:=B.trans (b.mono B.size);clear b;replace c_g4:=g4.five;clear m0 m1;obtain ⟨vs,z1,z2,z4,z5⟩:=oO;have hB:=B.size;have HT:=hD ho;have HQ:=hD (And.intro q1 (And.intro q2 (And.intro q3 (And.intro oT (And.intro oS (And.intro B (And.intro z1 (And.intro z2 (And.intro z4 z5)))))))))
     clear c_g4;refine wp_region_G (val:=GCopy.y) (V:=fun g=>OwnW g.W1 wa1.heap.size 42 g.y o.fs∧Below wa1.heap.size wa1 g.W1∧(Builtin.append_ #[28,28] 28 #[ot,.slice (some ⟨g.W1.heap.size,0,none⟩) 1 1]).run Tryz.prog (g.W1.alloc (.cells #[i64 o.ty,g.y] 68))=.ok g.v g.W3∧
       g.W3.ownsRow w.heap.size 68 2 g.v (k+1) (obC (m.objs.take k) vs++[i64 o.ty,g.y])∧(g.W1.alloc (.cells #[i64 o.ty,g.y] 68)).grownBy g.W3 ot.ownBlock)
      (F:=fun g=>FL [6,7,8,9,11] (wsO wa1 p o.ty g) 1 3) [1,6,7,8,9,11] 6 ⟨undef,wr,undef,wr⟩ 16 #[.slice xA xn xc] (fun g=>FL.dep) (by kernel_rfl) (by kernel_rfl) (by kernel_rfl) (fun g g' φ W hφ hF=>FL.agree (Ws:=wsO wa1 p o.ty g) (Ws':=wsO wa1 p o.ty g') (k0:=6) rfl rfl hφ hF) FL.start (by decide) ?_ ?_
     ·intro φ W hφ hF;obtain ⟨rfl,_⟩:=FL.step (i:=0) rfl (by decide) hF hφ (by intro p hp;omega) (by omega)
      refine (CW.out wa1.drew hxx).mono ?_;rintro e W1 ⟨y,rfl,oy,b1⟩
      have b1':Below wa1.heap.size wa1 W1:=(Below.refl _ wa1).drew.trans b1;have hz:=b1'.size;obtain ⟨v,W3,r1,r2,r3⟩:=run_append_rd (P:=Tryz.prog) (w:=W1.alloc (.cells #[i64 o.ty,y] 68)) (ty:=28) (B:=w.heap.size) Tryz.underlying28 info_obj rfl (by omega) (own_below z2 (b1'.alloc hz _)) lit_obj (one_obj (OwnW.rd oy).oneCell) (by omega) (by omega) (by simp;omega)
      rw [htk] at r2;have hF':=FL.agree (Ws:=wsO wa1 p o.ty ⟨undef,wr,undef,wr⟩) (Ws':=wsO wa1 p o.ty ⟨y,W1,v,W3⟩) (k0:=6) rfl rfl hφ hF;exact ⟨⟨y,W1,v,W3⟩,⟨oy,b1',r1,r2,r3⟩,rfl,(FL.step (i:=0) rfl (by decide) hF' hφ (by intro p hp;omega) (by omega)).2⟩
     ·rintro ⟨y,W1,v,W3⟩ ⟨oy,b1,r1,r2,r3⟩
      dsimp only at oy b1 r1 r2 r3 ⊢;have MM:=hD (copyO_mem (o:=o) (a:=w.heap.size) (b:=w.heap.size+1) (p:=p) z1 z2 z4 z5 oy b1 r2 r3 q1 q2 q3 oT oS B hB (by omega) (by omega) (by omega) g4 hlt0 (by omega))
      obtain ⟨yyA,yyn,yyc,rfl⟩:∃A n c,y=.slice A n c:=by obtain ⟨A,c,e⟩:=own_form' oy;exact ⟨A,_,c,e⟩
      obtain ⟨vA,vn,vc,rfl⟩:∃A n c,v=.slice A n c:=by obtain ⟨A,c,e⟩:=own_form' r2;exact ⟨A,_,c,e⟩
      have b1c:=(q3.below b1).cell 1;have b2c:=((q3.below b1).alloc (.cells #[i64 o.ty,.slice yyA yyn yyc] 68)).cell 1;have b0c:=(q3.below (Below.refl _ wa1).drew).cell 1;have c4:=fun x:FXN (FL [6,7,8,9,11] (wsO wa1 p o.ty ⟨.slice yyA yyn yyc,W1,.slice vA vn vc,W3⟩) 1 3)=>(FL.all (p:=fun W=>Bx W wr.heap.size 68 #[.int .i64 o.ty,.slice xA xn xc]) (by
       intro d hd;rcases d with _ | _ | _ | _ | _ | d
       ·exact g4.below (Below.refl _ wa1).drew
       ·exact g4.below b1
       ·exact g4.below b1
       ·exact (g4.below b1).alloc _
       ·exact MM.out.2.2.2.2.2.2.2.2.1
       ·exact MM.out.2.2.2.2.2.2.2.2.2) x).cell
      haveI:Nonempty (FXN (FL [6,7,8,9,11] (wsO wa1 p o.ty ⟨.slice yyA yyn yyc,W1,.slice vA vn vc,W3⟩) 1 3)):=⟨⟨_,_,FL.start⟩⟩
      refine wpG_read FL.dep rfl (by decide) (by decide) ?_;go_big_quiet_step (fail);refine wpQuiet_nil ?_
      refine wpG_step FL.dep (by decide) rfl (by rfl) (v:=ot) [] rfl (fun f W hF h0 _=>?_) ?_
      ·obtain ⟨⟨d,hd,hd2,rfl⟩,hF'⟩:=FL.read (by decide) hF h0;refine ⟨_,?_,hF'⟩
       have hc:(wsO wa1 p o.ty ⟨.slice yyA yyn yyc,W1,.slice vA vn vc,W3⟩ d).cell? ⟨p,1,none⟩=some ot:=by
        rcases d with _ | _ | _ | _ | d
        ·exact b0c
        ·exact b1c
        ·exact b1c
        ·exact b2c
        ·omega
       simp [execOp,go_sem,hc]
      simp only [Act.put,List.setIfInBounds_toArray,List.set_cons_zero,List.set_cons_succ]
      iterate 4 (refine wpG_read FL.dep rfl (by decide) (by decide) ?_;go_big_quiet_step (fail);refine wpQuiet_nil ?_)
      refine wpG_call #[.slice xA xn xc] rfl (by simp [Act.eval]) (enter_CloneW _) ?_;simp only [Act.put,List.setIfInBounds_toArray,List.set_cons_zero,List.set_cons_succ]
      refine wpG_step FL.dep (by decide) rfl (by rfl) (v:=.agg #[i64 o.ty,.slice yyA yyn yyc]) [6] (by kernel_rfl) (fun f W hF h0 h1=>?_) ?_
      ·obtain ⟨rfl,h2⟩:=FL.step (i:=1) rfl (by decide) hF h0 (FL.prev (p:=0) (q:=6) rfl (h1 6 (by simp))) (by omega)
       refine ⟨_,?_,h2⟩
       simp [execOp,go_sem,wsO,i64]
      simp only [Act.put,List.setIfInBounds_toArray,List.set_cons_zero,List.set_cons_succ]
      refine wpG_step FL.dep (by decide) rfl (by rfl) (v:=.slice (some ⟨W1.heap.size,0,none⟩) 1 1) [7] (by kernel_rfl) (fun f W hF h0 h1=>?_) ?_
      ·obtain ⟨rfl,h2⟩:=FL.step (i:=2) rfl (by decide) hF h0 (FL.prev (p:=1) (q:=7) rfl (h1 7 (by simp))) (by omega)
       refine ⟨_,?_,h2⟩
       simp [execOp,go_sem,wsO,i64]
      simp only [Act.put,List.setIfInBounds_toArray,List.set_cons_zero,List.set_cons_succ]
      refine wpG_step FL.dep (by decide) rfl (by rfl) (v:=.slice vA vn vc) [8,1] (by kernel_rfl) (fun f W hF h0 h1=>?_) ?_
      ·obtain ⟨rfl,h2⟩:=FL.step (i:=3) rfl (by decide) hF h0 (FL.prev (p:=2) (q:=8) rfl (h1 8 (by simp))) (fun _=>h1 1 (by simp))
       exact ⟨_,by simp [execOp,resolve,invoke,builtin,Act.eval,wsO,r1],h2⟩
      simp only [Act.put,List.setIfInBounds_toArray,List.set_cons_zero,List.set_cons_succ]
      refine wpG_read FL.dep rfl (by decide) (by decide) ?_;go_big_quiet_step (fail);refine wpQuiet_nil ?_
      refine wpG_store FL.dep (by decide) rfl 28 (.tmp 44) (.tmp 43) rfl (by rfl) (p:=.pointer (some ⟨p,1,none⟩)) (u:=.slice vA vn vc) (by rfl) (by rfl) [9] (by kernel_rfl) (fun f W hF h0 h1=>?_) ?_
      ·obtain ⟨rfl,h2⟩:=FL.step (i:=4) rfl (by decide) hF h0 (FL.prev (p:=3) (q:=9) rfl (h1 9 (by simp))) (by omega)
       refine ⟨_,?_,h2⟩
       have hc:=MM.out.1.1;have hf:=MM.out.1.2;simp [go_sem,wsO,hc,hf]
      refine wpG_nil ?_;intro w' hw';obtain rfl:=FL.done hw';have HM:=hD (MM.out.2)
      clear this MM HQ q1 q2 q3 oT oS B z1 z2 z4 z5 b1c b2c b0c hw' r1 r2 r3 oy b1 c4 g4 hxx;go_wp2
      go_roundg (NO-(k+1))
      case measure=>omega
      case rel=>
       obtain ⟨k1,k2,k3,k4,k5,k6,k7,_⟩:=HM.out;refine ⟨k+1,by omega,rfl,by go_num,hD ⟨_,?_,k2,k3,k4,k5,k6,k7⟩⟩
       rwa [List.take_add_one,HT.out.out]
    ·obtain rfl:k=NO:=by omega
     obtain ⟨ot,oO,q1,q2,q3,oT,oS,B⟩:=hh.out;rw [List.take_of_length_le (by have:=HNO.out;omega)] at oO;obtain ⟨oA,on,oc,rfl⟩:∃A n c,ot=.slice A n c:=by obtain ⟨vs,_,z2,_⟩:=oO;obtain ⟨A,c,e⟩:=own_form' z2;exact ⟨A,_,c,e⟩
     obtain ⟨xA,xn,xc,rfl⟩:∃A n c,xt=.slice A n c:=by obtain ⟨vs,_,z2,_⟩:=oT;obtain ⟨A,c,e⟩:=own_form' z2;exact ⟨A,_,c,e⟩
     have c2:=q2.cell;have c3:=q3.cell;have f2:=q2.free;have OO:=hD (And.intro oT (And.intro oO oS));have HB:=hD B;clear hh q1 oT oO oS B;go_wp2;refine bodyPost_ret (v:=.agg #[.slice xA xn xc,.slice oA on oc,.slice yA yn yc]) (by simp [results,Tryz.results38,go_sem,c2,c3,f2]) rfl ?_;refine ⟨_,_,_,rfl,OwnM.set3 ⟨OO.out.1,OO.out.2.1,OO.out.2.2⟩ q2,?_⟩
     have B:=HB.out;exact ((B.setCell (p:=⟨w.heap.size+1,0,none⟩) (by simp) _).setCell (p:=⟨w.heap.size+1,1,none⟩) (by simp) _).setCell (p:=⟨w.heap.size+1,2,none⟩) (by simp) _
end
section
open Go.RowKit L02 L13 L18 L20
end
section
open Go.RowKit L02 L13 L18 L20
end
section
open Go.RowKit L02 L13 L18 L20
theorem mo_ne {a b:Mo} (h:¬(a.types=b.types∧a.objs=b.objs∧a.slots=b.slots)):¬a=b:=fun e=>h (by rw [e];exact ⟨rfl,rfl,rfl⟩)
theorem mo_eq {a b:Mo} (h1:a.types=b.types) (h2:a.objs=b.objs) (h3:a.slots=b.slots):a=b:=by cases a;cases b;simp_all
theorem ob_eq {a b:Ob} (h1:a.ty=b.ty) (h2:a.fs=b.fs):a=b:=by cases a;cases b;simp_all
theorem Same20_any (ta oa sa tb ob sb:Value) (a b:Mo) (r:Bool) (hr:r=decide (a=b)) (w:World) (ha:Mod w ta oa sa a) (hb:Mod w tb ob sb b):
  Calls Tryz.prog 10 #[.agg #[ta,oa,sa],.agg #[tb,ob,sb]] w fun e w'=>e=.returned (.bool r)∧Below w.heap.size w w':=by
 have B:=Below.refl w.heap.size w;have lo:=ha.o.len;have lo2:=hb.o.len;have lo':=ha.o.len_le;have lo2':=hb.o.len_le;obtain ⟨z1,hz1⟩:=exq (decide (a.types=b.types))
 obtain ⟨z3,hz3⟩:=exq (sameS a.slots b.slots)
 have TT:=hD (SameT_any ta tb a.types b.types z1 hz1)
 have ST:=hD (SameS_any sa sb a.slots b.slots z3 hz3)
 obtain ⟨NA,hNA⟩:=exq a.objs.length;obtain ⟨NB,hNB⟩:=exq b.objs.length;rw [←hNA] at lo lo';rw [←hNB] at lo2 lo2';have HA:=hD ha;have HB:=hD hb;have HNA:=hD hNA;have HNB:=hD hNB;have HR:=hD hr;have HZ1:=hD hz1;have HZ3:=hD hz3;have hno:¬(a.types=b.types∧a.objs=b.objs∧a.slots=b.slots)→r=false:=fun h=>by rw [hr];exact decide_eq_false (mo_ne h)
 have HNO:=hD hno;clear ha hb hNA hNB hr hz1 hz3 hno;go_in;go_upto_region 1 with (fail)
 refine wpb11 (31) (#[ta,oa,sa]) (31) (#[tb,ob,sb]) ?_;rintro wa1 ⟨g1,g2,b⟩
 replace B:=B.trans (b.mono B.size);clear b;replace c_g1:=g1.five;replace c_g2:=g2.five;go_wp2_with fail;refine (TT.out _ (HA.out.t.below B) (HB.out.t.below B)).mono ?_;rintro e w2 ⟨rfl,b2⟩
 replace g1:=g1.below b2;replace g2:=g2.below b2;replace B:=B.trans (b2.mono B.size)
 clear b2 c_g1 c_g2;have c_g1:=g1.cell;have c_g2:=g2.cell;cases z1
 ·have hrf:=HNO.out (fun h=>by have:=HZ1.out;rw [eq_comm,decide_eq_false_iff_not] at this;exact this h.1)
  subst hrf;go_wp2
  go_ret
  exact ⟨rfl,B⟩
 ·by_cases hl:NA=NB
  ·have hl1:((NA:Int) != (NB:Int))=false:=by rw [bne_eq_false_iff_eq];omega
   have HL:=hD hl;clear hl;go_wp2_with fail;refine (ST.out _ (HA.out.s.below B) (HB.out.s.below B)).mono ?_;rintro e w3 ⟨rfl,b2⟩
   replace g1:=g1.below b2;replace g2:=g2.below b2;replace B:=B.trans (b2.mono B.size)
   clear b2 c_g1 c_g2;cases z3
   ·have hrf:=HNO.out (fun h=>by have:=HZ3.out;rw [sameS,eq_comm,decide_eq_false_iff_not] at this;exact this h.2.2)
    subst hrf;go_wp2
    go_ret
    exact ⟨rfl,B⟩
   ·have HG:=hD (And.intro g1 (And.intro g2 B))
    clear g1 g2 B;go_wp2
    go_loopg [5] NA (fun g i wr=>∃k:Nat,k≤NA∧g=NA-k∧i=.int .i64 k∧Hid (a.objs.take k=b.objs.take k∧Bx wr w.heap.size 31 #[ta,oa,sa]∧Bx wr (w.heap.size+1) 31 #[tb,ob,sb]∧Below w.heap.size w wr))
    case atStart=>exact ⟨0,by omega,by omega,rfl,hD ⟨by simp,HG.out⟩⟩
    case round=>
     clear HG;obtain ⟨k,hk,rfl,rfl,hh⟩:=hrel;obtain ⟨heq,g1,g2,B⟩:=hh.out;have HEQ:=hD heq;clear hh heq;have c_g1:=g1.cell;have c_g2:=g2.cell;by_cases hlt:k<NA
     ·obtain ⟨bb,bq,x,o,ix,m0,m1,ho,hx,hxb⟩:=(HA.out.o.below B).at_ (k:=k) (by have:=HNA.out;omega)
      obtain ⟨cb,cq,y,p,iy,m2,m3,hp,hy,hyb⟩:=(HB.out.o.below B).at_ (k:=k) (by have:=HNB.out;have:=HL.out;omega)
      have hxx:=hx.out;have hyy:=hy.out;by_cases hty:o.ty=p.ty
      ·have ht:(o.ty != p.ty)=false:=by rw [bne_eq_false_iff_eq];exact hty
       obtain ⟨q,hq⟩:=exq (L02.same o.fs p.fs)
       have SW:=hD (Same_r x y o.fs p.fs q hq)
       have HQ:=hD hq;have HTY:=hD hty;clear hq hty;have HXX:=hD hxx;have HYY:=hD hyy;go_upto_region 6 with (fail)
       have HC:=hD (fun z:Fut wr=>And.intro (HXX.out.below z.h) (HYY.out.below z.h))
       clear hxx hyy;refine wp_region_calm (by kernel_rfl) (by kernel_rfl) ?_;replace c_g1:=fun x:Fut _=>(g1.below x.h).cell;replace c_g2:=fun x:Fut _=>(g2.below x.h).cell;have c_m0:=fun x:Fut _=>cell_later x.h m0;have c_m1:=fun x:Fut _=>cell_later x.h m1;have c_m2:=fun x:Fut _=>cell_later x.h m2;have c_m3:=fun x:Fut _=>cell_later x.h m3;repeat (go_big_quiet_step (exact Fut.call (SW.out _ (HC.out _).1 (HC.out _).2)))
       refine wpQuiet_nil ?_;intro _ hw';obtain ⟨xq,hw''⟩:=hw';subst hw'';replace g1:=g1.below xq.h;replace c_g1:=g1.five;replace g2:=g2.below xq.h;replace c_g2:=g2.five;clear c_m0;replace m0:=cell_later xq.h m0;clear c_m1;replace m1:=cell_later xq.h m1;clear c_m2;replace m2:=cell_later xq.h m2;clear c_m3;replace m3:=cell_later xq.h m3;replace B:=B.trans (xq.h.mono B.size)
       cases q
       ·have hrf:=HNO.out (fun h=>by
         have h1:=ho.out;have h2:=hp.out;rw [h.2.1,h2] at h1;injection h1 with h1
         have:=HQ.out;rw [h1] at this;simp [L02.same] at this)
        subst hrf;go_wp2
        go_ret
        exact ⟨rfl,B⟩
       ·have hs:o.fs=p.fs:=by have:=HQ.out;simpa [L02.same,eq_comm] using this
        have HS:=hD (ob_eq HTY.out hs);clear hs;have HH:=hD (And.intro g1 (And.intro g2 B))
        clear g1 g2 B c_g1 c_g2 m0 m1 m2 m3;go_wp2
        go_roundg (NA-(k+1))
        case measure=>omega
        case rel=>
         refine ⟨k+1,by omega,rfl,by go_num,hD ⟨?_,HH.out⟩⟩
         rw [List.take_add_one,List.take_add_one,HEQ.out,ho.out,hp.out,HS.out]
      ·have ht:(o.ty != p.ty)=true:=by rw [bne_iff_ne];exact hty
       have hrf:=HNO.out (fun h=>by
        have h1:=ho.out;have h2:=hp.out;rw [h.2.1,h2] at h1;injection h1 with h1
        exact hty (by rw [h1]))
       subst hrf;clear hxx hyy hty;go_upto_region 6 with (fail)
       refine wp_region_calm (by kernel_rfl) (by kernel_rfl) ?_;replace c_g1:=fun x:Fut _=>(g1.below x.h).cell;replace c_g2:=fun x:Fut _=>(g2.below x.h).cell;have c_m0:=fun x:Fut _=>cell_later x.h m0;have c_m1:=fun x:Fut _=>cell_later x.h m1;have c_m2:=fun x:Fut _=>cell_later x.h m2;have c_m3:=fun x:Fut _=>cell_later x.h m3;repeat (go_big_quiet_step (fail))
       refine wpQuiet_nil ?_;intro _ hw';obtain ⟨xq,hw''⟩:=hw';subst hw'';replace g1:=g1.below xq.h;replace c_g1:=g1.five;replace g2:=g2.below xq.h;replace c_g2:=g2.five;clear c_m0;replace m0:=cell_later xq.h m0;clear c_m1;replace m1:=cell_later xq.h m1;clear c_m2;replace m2:=cell_later xq.h m2;clear c_m3;replace m3:=cell_later xq.h m3;replace B:=B.trans (xq.h.mono B.size)
       go_wp2
       go_ret
       exact ⟨rfl,B⟩
     ·obtain rfl:k=NA:=by omega
      have hrt:r=true:=by
       rw [HR.out,decide_eq_true_iff]
       have h1:=HEQ.out;rw [List.take_of_length_le (by have:=HNA.out;omega),List.take_of_length_le (by have:=HNB.out;have:=HL.out;omega)] at h1;have h2:=HZ1.out;have h3:=HZ3.out;rw [eq_comm,decide_eq_true_iff] at h2;rw [sameS,eq_comm,decide_eq_true_iff] at h3;exact mo_eq h2 h1 h3
      subst hrt;go_wp2
      go_ret
      exact ⟨rfl,B⟩
  ·have hl1:((NA:Int) != (NB:Int))=true:=by rw [bne_iff_ne];omega
   have hrf:=HNO.out (fun h=>hl (by rw [HNA.out,HNB.out,h.2.1]))
   subst hrf;clear hl;go_wp2
   go_ret
   exact ⟨rfl,B⟩
end
section
open Go Go.RowKit
section
variable {P:Program} {ops:Array Oper} {md:Region.Mode}
def YieldsM (P:Program) (md:Region.Mode) (ops:Array Oper) (C:Array Bool→World→Prop) (nn:Nat→Bool) (x:Nat→Value) (i:Nat) (o:Oper) (v:Value) (a:Act):Prop:=
 (nn i=true∧v=x i∧Region.wanted o (yielded ops a.tmps)=true)∨(nn i=false∧YieldsV P md ops C i o v a)
theorem YieldsM.of_same {C:Array Bool→World→Prop} {nn:Nat→Bool} {x:Nat→Value} {i:Nat} {o:Oper} {v:Value} {a a':Act} (hy:YieldsM P md ops C nn x i o v a) (he:execOp a'.eval o=execOp a.eval o)
  (hw:Region.wanted o (yielded ops a'.tmps)=Region.wanted o (yielded ops a.tmps)):YieldsM P md ops C nn x i o v a':=by
 rcases hy with ⟨h1,h2,h3⟩ | ⟨h1,h2⟩
 ·exact .inl ⟨h1,h2,by rw [hw];exact h3⟩
 ·exact .inr ⟨h1,h2.of_same he hw⟩
def qOpM (P:Program) (md:Region.Mode) (ops:Array Oper) (C:Array Bool→World→Prop) (nn:Nat→Bool) (x:Nat→Value) (T:Nat→Sem Next→Prop) (i:Nat) (K:Act→Prop) (a:Act):Prop:=
 match ops[i]? with
 | none=>False
 | some o=>∃v,(YieldsM P md ops C nn x i o v a∧(nn i=true→T i (execOp a.eval o)))∧K (a.put o.dst v)
variable {C:Array Bool→World→Prop} {nn:Nat→Bool} {x:Nat→Value} {T:Nat→Sem Next→Prop}
theorem qOpM_mono {i:Nat} {a:Act} {K K':Act→Prop} (h:∀a,K a→K' a) (hh:qOpM P md ops C nn x T i K a):qOpM P md ops C nn x T i K' a:=by
 unfold qOpM at *;split
 ·rename_i ho;simp only [ho] at hh
 ·rename_i o ho;simp only [ho] at hh;obtain ⟨v,h1,h2⟩:=hh;exact ⟨v,h1,h _ h2⟩
def wpAnyM (P:Program) (md:Region.Mode) (ops:Array Oper) (C:Array Bool→World→Prop) (nn:Nat→Bool) (x:Nat→Value) (T:Nat→Sem Next→Prop) (Q:Array Bool→Act→Prop):Nat→Array Bool→Act→Prop
 | 0,listed,a=>Region.ready md ops listed=[]∧Q listed a
 | fuel+1,listed,a=>
  (Region.ready md ops listed=[]→Q listed a)∧
  ∀i∈Region.ready md ops listed,qOpM P md ops C nn x T i (wpAnyM P md ops C nn x T Q fuel (listed.setIfInBounds i true)) a
theorem qOpM_put {i j:Nat} {oi oj:Oper} {v:Value} (hj:ops[j]?=some oj) (hap:oi.apart ops oj=true)
  (hsi:∀cs b,oi.op≠.select cs b) (hsj:∀cs b,oj.op≠.select cs b) {K:Act→Prop} {a:Act}
  (hy:YieldsM P md ops C nn x i oi v a∧(nn i=true→T i (execOp a.eval oi))) (h:qOpM P md ops C nn x T j K (a.put oi.dst v)):
  qOpM P md ops C nn x T j (fun a'=>(YieldsM P md ops C nn x i oi v a'∧(nn i=true→T i (execOp a'.eval oi)))∧K (a'.put oi.dst v)) a:=by
 obtain ⟨h1,h2,h3⟩:=Oper.apart_spec hap;unfold qOpM at *;simp only [hj] at *;obtain ⟨u,⟨hu,hu2⟩,hn⟩:=h;refine ⟨u,⟨hu.of_same ?_ ?_,fun e=>?_⟩,⟨hy.1.of_same ?_ ?_,fun e=>?_⟩,?_⟩
 ·exact (execOp_put oj hsj a oi.dst v h1).symm
 ·exact (wanted_put oj a oi.dst v h1).symm
 ·have:=hu2 e;rwa [execOp_put oj hsj a oi.dst v h1] at this
 ·exact execOp_put oi hsi a oj.dst u h3
 ·exact wanted_put oi a oj.dst u h3
 ·have:=hy.2 e;rwa [execOp_put oi hsi a oj.dst u h3]
 ·rw [←Act.put_comm a v u h2];exact hn
theorem wpAnyM_first {Q:Array Bool→Act→Prop} {i:Nat} {oi:Oper} {v:Value} (hi:ops[i]?=some oi) (hsel:∀(j:Nat) (o:Oper) cs b,ops[j]?=some o→o.op≠.select cs b):
  ∀(fuel:Nat) (listed:Array Bool) (a:Act),
   (∀j oj,ops[j]?=some oj→j≠i→listed.getD j true=false→(∀e∈oj.after,Region.binds md e=true→e.on≠i)→oi.apart ops oj=true)→
   i∈Region.ready md ops listed→YieldsM P md ops C nn x i oi v a∧(nn i=true→T i (execOp a.eval oi))→
   wpAnyM P md ops C nn x T Q fuel (listed.setIfInBounds i true) (a.put oi.dst v)→wpAnyM P md ops C nn x T Q (fuel+1) listed a:=by
 intro fuel;induction fuel with
 | zero=>
  intro listed a _ hr hy H;refine ⟨fun h=>(by rw [h] at hr;cases hr),fun j hj=>?_⟩
  by_cases hji:j=i
  ·subst hji;unfold qOpM;simp only [hi]
   exact ⟨v,hy,H⟩
  ·have:=ready_mono hj hji;rw [H.1] at this;cases this
 | succ fuel ih=>
  intro listed a hfree hr hy H;refine ⟨fun h=>(by rw [h] at hr;cases hr),fun j hj=>?_⟩
  by_cases hji:j=i
  ·subst hji;unfold qOpM;simp only [hi]
   exact ⟨v,hy,H⟩
  ·have h1:=H.2 j (ready_mono hj hji)
   obtain ⟨hjun,oj,hoj,hall⟩:=mem_ready.1 hj;have hnot:∀e∈oj.after,Region.binds md e=true→e.on≠i:=fun e he hb heq=>by
    have h1:=hall e he hb;have h0:=(mem_ready.1 hr).1;rw [heq] at h1;rcases Nat.lt_or_ge i listed.size with h' | h'
    ·simp [h'] at h0 h1;rw [h0] at h1;cases h1
    ·simp [Array.getElem?_eq_none h'] at h1
   have h2:=qOpM_put hoj (hfree j oj hoj hji hjun hnot) (fun cs b=>hsel i oi cs b hi) (fun cs b=>hsel j oj cs b hoj) hy h1;have hfree':∀k ok,ops[k]?=some ok→k≠i→(listed.setIfInBounds j true).getD k true=false→
     (∀e∈ok.after,Region.binds md e=true→e.on≠i)→oi.apart ops ok=true:=fun k ok hk hki hun hno=>by
    refine hfree k ok hk hki ?_ hno;by_cases hjk:j=k
    ·subst hjk;exact hjun
    ·rw [getD_set_ne true hjk] at hun;exact hun
   refine qOpM_mono (fun a' h3=>ih (listed.setIfInBounds j true) a' hfree' (ready_mono hr (Ne.symm hji)) h3.1 ?_) h2;rw [Array.setIfInBounds_comm _ _ hji]
   exact h3.2
def wpM (P:Program) (md:Region.Mode) (ops:Array Oper) (C:Array Bool→World→Prop) (nn:Nat→Bool) (x:Nat→Value) (T:Nat→Sem Next→Prop) (Q:Act→Prop):List Oper→Nat→Act→Prop
 | [],_,a=>Q a
 | o :: rest,k,a=>∃v,(YieldsM P md ops C nn x k o v a∧(nn k=true→T k (execOp a.eval o)))∧wpM P md ops C nn x T Q rest (k+1) (a.put o.dst v)
theorem wpAnyM_lex {Q:Array Bool→Act→Prop} (hs:Region.noSelect ops=true):∀(l:List Oper) (k:Nat) (listed:Array Bool) (a:Act),(∀j,l[j]?=ops[k+j]?)→
  Region.lexFrom md ops l.length k listed=true→wpM P md ops C nn x T (Q (setAll l.length k listed)) l k a→wpAnyM P md ops C nn x T Q l.length listed a
 | [],_,_,_,_,hB,h=>⟨by simpa [Region.lexFrom] using hB,h⟩
 | o :: l,k,listed,a,hl,hB,h=>by
  have h0:ops[k]?=some o:=by simpa using (hl 0).symm
  simp only [List.length_cons,Region.lexFrom,Bool.and_eq_true] at hB;obtain ⟨⟨hr,hf⟩,hB'⟩:=hB;obtain ⟨v,hy,hK⟩:=h;exact wpAnyM_first h0 (Region.noSelect_spec hs) l.length listed a (Region.free_spec h0 hf) (by simpa using hr) hy
   (wpAnyM_lex hs l (k+1) _ _ (fun j=>by have:=hl (j+1);simpa [Nat.add_assoc,Nat.add_comm 1 j] using this) hB' hK)
def uponN (P:Program) (Post:Value→World→Prop):Result Next→Prop
 | .ok (.value u) w'=>Post u w'
 | .ok (.enter f args) w'=>Calls P f args w' (fun e w''=>∃u,e=.returned u∧Post u w'')
 | _=>False
theorem uponN_mono {P:Program} {Post Post':Value→World→Prop} {r:Result Next} (h:∀v w,Post v w→Post' v w) (hr:uponN P Post r):uponN P Post' r:=by
 cases r with
 | ok n w'=>
  cases n <;> simp only [uponN] at hr ⊢;case value u=>exact h _ _ hr
  case enter f args=>exact hr.mono fun e w'' ⟨u,he,hp⟩=>⟨u,he,h _ _ hp⟩
 | halt y w'=>simp only [uponN] at hr
theorem wpAny_of_M {G:Type} {val:G→Nat→Value} {V:G→Prop} {Ag:Array Bool→G→G→Prop} {Cg:G→Array Bool→World→Prop} {Tg:Nat→Sem Next→Prop} {Q':Exit→Act→World→Prop}
  (hrf:∀(l:Array Bool) g,Ag l g g) (htr:∀(l:Array Bool) g g' g'',Ag l g g'→Ag l g' g''→Ag l g g'') (hmn:∀(l:Array Bool) i g g',Ag (l.setIfInBounds i true) g g'→l.getD i true=false→Ag l g g')
  (hvl:∀(l:Array Bool) i g g',nn i=true→l.getD i true=false→Ag (l.setIfInBounds i true) g g'→val g i=val g' i) (hag:∀(l:Array Bool) g g' w,Ag l g g'→Cg g l w→Cg g' l w)
  (hT:∀i s (l:Array Bool) w g,nn i=true→Tg i s→V g→i∈Region.ready md ops l→Cg g l w→uponN P (fun v w'=>∃g',V g'∧Ag l g g'∧v=val g' i∧Cg g' (l.setIfInBounds i true) w') (s.run P w)):
  ∀(fuel:Nat) (l:Array Bool) (a:Act) (w:World) (g0:G),V g0→Cg g0 l w→
  (∀g,V g→Ag l g0 g→wpAnyM P md ops (Cg g) nn (val g) Tg (fun l a=>∀w',Cg g l w'→Q' .normal a w') fuel l a)→wpAny P md ops Q' fuel l a w
 | 0,l,a,w,g0,hg0,hC,h=>⟨(h g0 hg0 (hrf _ _)).1,(h g0 hg0 (hrf _ _)).2 w hC⟩
 | fuel+1,l,a,w,g0,hg0,hC,h=>by
  refine ⟨fun h0=>(h g0 hg0 (hrf _ _)).1 h0 w hC,fun i hi=>?_⟩
  have hun:=(mem_ready.1 hi).1;have h1:=(h g0 hg0 (hrf _ _)).2 i hi;unfold qOpM at h1;unfold wpOp;split
  ·rename_i ho;simp only [ho] at h1
  ·rename_i o ho;simp only [ho] at h1;obtain ⟨v,⟨h2,hT0⟩,h3⟩:=h1
   -- what comes behind a number of nn that has yielded val g' i
   have next:nn i=true→∀g',V g'→Ag l g0 g'→∀w',Cg g' (l.setIfInBounds i true) w'→wpAny P md ops Q' fuel (l.setIfInBounds i true) (a.put o.dst (val g' i)) w':=by
    intro hn g' hg' hA w' hC';refine wpAny_of_M hrf htr hmn hvl hag hT fuel _ _ w' g' hg' hC' fun g hg hA2=>?_;have h4:=(h g hg (htr _ _ _ _ hA (hmn _ _ _ _ hA2 hun))).2 i hi;unfold qOpM at h4;simp only [ho] at h4;obtain ⟨v',⟨h5,_⟩,h6⟩:=h4;rcases h5 with ⟨_,e5,_⟩ | ⟨hne,_⟩
    ·rw [hvl _ _ _ _ hn hun hA2,←e5];exact h6
    ·rw [hn] at hne;cases hne
   rcases h2 with ⟨hn,hv,hw⟩ | ⟨hn,h2⟩
   ·rw [if_pos hw]
    left;have h5:=hT i _ l w g0 hn (hT0 hn) hg0 hi hC;unfold Oper.wp
    generalize (execOp a.eval o).run P w=r at*
    cases r with
    | ok n w'=>
     cases n <;> simp only [uponN] at h5 <;> simp only [Oper.upon]
     case value u=>obtain ⟨g',e1,e2,rfl,e4⟩:=h5;exact next hn g' e1 e2 _ e4
     case enter f args=>
      refine h5.mono fun e w'' ⟨u,he,g',e1,e2,e3,e4⟩=>?_;subst he;subst e3;exact next hn g' e1 e2 _ e4
    | halt y w'=>simp only [uponN] at h5
   ·have hval:∀g,V g→Ag (l.setIfInBounds i true) g0 g→wpAnyM P md ops (Cg g) nn (val g) Tg (fun l a=>∀w',Cg g l w'→Q' .normal a w') fuel (l.setIfInBounds i true) (a.put o.dst v):=by
     intro g hg hA2;have hA:=hmn _ _ _ _ hA2 hun;have h4:=(h g hg hA).2 i hi;unfold qOpM at h4;simp only [ho] at h4;obtain ⟨v',⟨h5,_⟩,h6⟩:=h4;rcases h5 with ⟨e,_⟩ | ⟨_,h5⟩
     ·rw [hn] at e;cases e
     ·have hvv:v=v':=by
       rcases h2 with ⟨hw,ha⟩ | ⟨hw,rfl,_⟩
       ·rcases h5 with ⟨_,hb⟩ | ⟨hw',_⟩
        ·exact uponV_val (ha l w hi hC) (hb l w hi (hag _ _ _ _ hA hC))
        ·rw [hw] at hw';cases hw'
       ·rcases h5 with ⟨hw',_⟩ | ⟨_,e,_⟩
        ·rw [hw] at hw';cases hw'
        ·exact e.symm
      rw [hvv];exact h6
    rcases h2 with ⟨hw,ha⟩ | ⟨hw,rfl,hv⟩
    ·rw [if_pos hw]
     left;have h5:=ha l w hi hC;unfold Oper.wp
     generalize (execOp a.eval o).run P w=r at*
     cases r with
     | ok n w'=>
      cases n <;> simp only [uponV] at h5 <;> simp only [Oper.upon]
      case value u=>obtain ⟨e1,e2⟩:=h5;rw [e1];exact wpAny_of_M hrf htr hmn hvl hag hT fuel _ _ w' g0 hg0 e2 hval
      case skip=>obtain ⟨e1,e2⟩:=h5;rw [←e1];exact wpAny_of_M hrf htr hmn hvl hag hT fuel _ _ w' g0 hg0 e2 hval
     | halt y w'=>simp only [uponV] at h5
    ·rw [if_neg (by rw [hw];exact Bool.false_ne_true)]
     exact wpAny_of_M hrf htr hmn hvl hag hT fuel _ _ w g0 hg0 (hv l w hi hC) hval
end
section
variable {P:Program} {ops:Array Oper} {rest:List Oper} {o:Oper} {a:Act} {Q:Act→Prop} {F:(Nat→Bool)→World→Prop} {js:List Nat} {k:Nat} {nn:Nat→Bool} {md:Region.Mode} {x:Nat→Value} {T:Nat→Sem Next→Prop}
theorem wpM_nil (h:Q a):wpM P md ops (CN F) nn x T Q [] k a:=h
theorem wpM_new (hn:nn k=true) (hw:Region.wanted o (yielded ops a.tmps)=true) (hT:T k (execOp a.eval o)) (h:wpM P md ops (CN F) nn x T Q rest (k+1) (a.put o.dst (x k))):wpM P md ops (CN F) nn x T Q (o :: rest) k a:=
 ⟨x k,⟨.inl ⟨hn,rfl,hw⟩,fun _=>hT⟩,h⟩
theorem wpM_read (hD:Dep F js) (hV:isV o.op=true) (hk:k∉js) (hn:nn k=false) (h:wpQuiet P ops (fun W=>∃x:FXN F,W=x.W) (fun a'=>wpM P md ops (CN F) nn x T Q rest (k+1) a') [o] a):wpM P md ops (CN F) nn x T Q (o :: rest) k a:=by
 unfold wpQuiet at h;split at h
 ·rename_i hw;obtain ⟨v,h1,h2⟩:=h;refine ⟨v,⟨.inr ⟨hn,.inl ⟨hw,fun listed W hl hW=>?_⟩⟩,fun e=>by rw [hn] at e;cases e⟩,h2⟩
  have h3:=h1 W ⟨⟨W,_,hW⟩,rfl⟩
  unfold Oper.quietAt at h3;cases hr:(execOp a.eval o).run P W with
  | ok n w'=>
   obtain ⟨u,rfl⟩:=isV_value hV hr;rw [hr] at h3;simp only [Oper.quietUpon] at h3;simp only [uponV]
   obtain ⟨e1,e2⟩:=h3;subst e1;exact ⟨e2,hW.skip hD hk⟩
  | halt x w'=>rw [hr] at h3;simp only [Oper.quietUpon] at h3
 ·rename_i hw;exact ⟨undef,⟨.inr ⟨hn,.inr ⟨by simpa using hw,rfl,fun listed W hl hW=>hW.skip hD hk⟩⟩,fun e=>by rw [hn] at e;cases e⟩,h⟩
theorem wpM_pure (hD:Dep F js) (hk:k∉js) (hn:nn k=false) (hw:Region.wanted o (yielded ops a.tmps)=true) {v:Value} (hr:∀W,(execOp a.eval o).run P W=.ok (.value v) W) (h:wpM P md ops (CN F) nn x T Q rest (k+1) (a.put o.dst v)):wpM P md ops (CN F) nn x T Q (o :: rest) k a:=
 ⟨v,⟨.inr ⟨hn,.inl ⟨hw,fun listed W hl hW=>by rw [hr W];exact ⟨rfl,hW.skip hD hk⟩⟩⟩,fun e=>by rw [hn] at e;cases e⟩,h⟩
theorem wpM_store (hD:Dep F js) (hn:nn k=false) (hi:ops[k]?=some o) (ty:TypeId) (px py:Operand) (ho:o.op=.store ty px py) (hw:Region.wanted o (yielded ops a.tmps)=true) {p u:Value} (hx:a.eval px=p) (hy:a.eval py=u) (dep:List Nat) (hd:(dep.all fun j=>o.after.any fun e=>Region.binds md e && e.on==j)=true)
  (hs:∀f W,F f W→f k=false→(∀j∈dep,f j=true)→∃W',(Instr.storeAt ty p u).run P W=.ok () W'∧F (fun i=>i==k || f i) W') (h:wpM P md ops (CN F) nn x T Q rest (k+1) (a.put o.dst undef)):wpM P md ops (CN F) nn x T Q (o :: rest) k a:=by
 refine ⟨undef,⟨.inr ⟨hn,.inl ⟨hw,fun listed W hl hW=>?_⟩⟩,fun e=>by rw [hn] at e;cases e⟩,h⟩
 have hk:listed.getD k false=false:=by
  have h1:=(mem_ready.1 hl).1;rcases Nat.lt_or_ge k listed.size with h' | h'
  ·simp [h'] at h1 ⊢;exact h1
  ·simp [Array.getElem?_eq_none h'] at h1
 obtain ⟨W',h1,h2⟩:=hs _ W hW hk (fun j hj=>ready_after hi (List.all_eq_true.1 hd j hj) hl)
 unfold execOp;simp only [ho,hx,hy,Sem.run_bind,h1,Result.andThen_ok,Sem.run_pure,uponV,true_and]
 refine hD _ _ _ (fun j hj=>?_) h2;by_cases hjk:j=k
 ·subst hjk;rw [(getD_on (mem_ready.1 hl).1).2];simp
 ·have hne:k≠j:=Ne.symm hjk;rw [getD_set_ne false hne];simp [hjk]
end
theorem wp_region_M {P:Program} {id:Nat} {Q:Exit→Act→World→Prop} {a:Act} {w:World} {l:List Oper} {G:Type} (val:G→Nat→Value) (Ag:(Nat→Bool)→G→G→Prop) (F:G→(Nat→Bool)→World→Prop) (js ns:List Nat) (dep:Nat→List Nat) (T:Nat→Sem Next→Prop) (g0:G)
  (hD:∀g,Dep (F g) js) (hm:P.follows .mixedOrders=true) (hB:Region.lexB .any l.toArray=true)
  (hf:(js.all fun j=>(setAll l.length 0 (Array.replicate l.length false)).getD j false)=true)
  (hnj:(ns.all fun k=>js.contains k && match l.toArray[k]? with | some o=>(dep k).all (fun j=>o.after.any fun e=>Region.binds .any e && e.on==j) | none=>false)=true)
  (hAD:∀(φ ψ:Nat→Bool) g g',(∀j∈js,φ j=ψ j)→Ag φ g g'→Ag ψ g g') (hrf:∀φ g,Ag φ g g) (htr:∀φ g g' g'',Ag φ g g'→Ag φ g' g''→Ag φ g g'') (hmn:∀(φ:Nat→Bool) k g g',Ag (fun i=>i==k || φ i) g g'→φ k=false→Ag φ g g')
  (hvl:∀(φ:Nat→Bool) k g g',k∈ns→φ k=false→Ag (fun i=>i==k || φ i) g g'→val g k=val g' k) (hag:∀φ g g' W,Ag φ g g'→F g φ W→F g' φ W)
  (h0:∀g,Ag (fun _=>false) g0 g) (hC:F g0 (fun _=>false) w.drew)
  (hT:∀k s (φ:Nat→Bool) W g,k∈ns→T k s→φ k=false→(∀j∈dep k,φ j=true)→F g φ W→uponN P (fun v W'=>∃g',Ag φ g g'∧v=val g' k∧F g' (fun i=>i==k || φ i) W') (s.run P W))
  (h:∀g,wpM P .any l.toArray (CN (F g)) (fun i=>ns.contains i) (val g) T (fun a'=>∀w',F g (fun _=>true) w'→Q .normal a' w') l 0 a):(Code.region id l.toArray true).wp P Q a w:=by
 have hrep:∀j,(Array.replicate l.length false).getD j false=false:=fun j=>getD_replicate_false _ _;simp only [Region.lexB,Bool.and_eq_true] at hB;have un:∀{listed:Array Bool} {i:Nat},listed.getD i true=false→listed.getD i false=false:=fun {listed i} h1=>by
  rcases Nat.lt_or_ge i listed.size with h' | h'
  ·simp [h'] at h1 ⊢;exact h1
  ·simp [Array.getElem?_eq_none h'] at h1
 have set_on:∀{listed:Array Bool} {i:Nat},listed.getD i true=false→∀j,(listed.setIfInBounds i true).getD j false=(j==i || listed.getD j false):=fun {listed i} h1 j=>by
  by_cases hj:j=i
  ·subst hj
   have:=(getD_on h1).2;simp [this]
  ·rw [getD_set_ne false (Ne.symm hj)];simp [hj]
 refine wp_region_any hm (wpAny_of_M (val:=val) (V:=fun _=>True) (Ag:=fun listed=>Ag (fun j=>listed.getD j false)) (Cg:=fun g=>CN (F g)) (Tg:=T) (nn:=fun i=>ns.contains i) ?_ ?_ ?_ ?_ ?_ ?_ _ _ _ _ g0 trivial ?_ ?_)
 ·intro listed g;exact hrf _ g
 ·intro listed g g' g'' h1 h2;exact htr _ _ _ _ h1 h2
 ·intro listed i g g' h1 h2;refine hmn _ i g g' (hAD _ _ _ _ (fun j _=>set_on h2 j) h1) (un h2)
 ·intro listed i g g' hn h2 h1;exact hvl _ i g g' (by simpa using hn) (un h2) (hAD _ _ _ _ (fun j _=>set_on h2 j) h1)
 ·intro listed g g' W h1 h2;exact hag _ _ _ _ h1 h2
 ·intro i s listed W g hn hs _ hr hW;have hi:i∈ns:=by simpa using hn
  have hun:=(mem_ready.1 hr).1;have hdp:=List.all_eq_true.1 hnj i hi;simp only [Bool.and_eq_true] at hdp;have hdeps:∀j∈dep i,listed.getD j false=true:=by
   obtain ⟨o,ho,_⟩:=(mem_ready.1 hr).2;have h2:=hdp.2;simp only [ho] at h2;exact fun j hj=>ready_after ho (List.all_eq_true.1 h2 j hj) hr
  have h3:=hT i s _ W g hi hs (un hun) hdeps hW;refine uponN_mono (fun v W' ⟨g',e1,e2,e3⟩=>⟨g',trivial,e1,e2,?_⟩) h3;exact hD g' _ _ _ (fun j _=>(set_on hun j).symm) e3
 ·exact hD g0 _ _ _ (fun j _=>by have:=hrep j;simpa using this.symm) hC
 ·intro g _ _;have e2:∀w',CN (F g) (setAll l.length 0 (Array.replicate l.length false)) w'→F g (fun _=>true) w':=fun w' h'=>hD g _ _ _ (fun j hj=>by simpa using List.all_eq_true.1 hf j hj) h';have mono:∀(r:List Oper) (k:Nat) (a':Act),wpM P .any l.toArray (CN (F g)) (fun i=>ns.contains i) (val g) T (fun a'=>∀w',F g (fun _=>true) w'→Q .normal a' w') r k a'→wpM P .any l.toArray (CN (F g)) (fun i=>ns.contains i) (val g) T (fun a'=>∀w',CN (F g) (setAll l.length 0 (Array.replicate l.length false)) w'→Q .normal a' w') r k a':=by
   intro r;induction r with
   | nil=>intro k a' h0 w' h';exact h0 w' (e2 w' h')
   | cons o r ih=>intro k a' h0;obtain ⟨v,h1,h2⟩:=h0;exact ⟨v,h1,ih _ _ h2⟩
  have:=wpAnyM_lex (C:=CN (F g)) (md:=.any) (nn:=fun i=>ns.contains i) (x:=val g) (T:=T) (Q:=fun listed a'=>∀w',CN (F g) listed w'→Q .normal a' w') hB.1 l 0 (Array.replicate l.length false) a (by simp) (by simpa using hB.2) (mono _ _ _ (h g))
  simpa using this
end
section
open Go.RowKit L02 L13 L18 L20
theorem right_case {L:List Sl} {k:Nat} {s:Sl} {g r:Int} (hs:L[k]?=some s) (hr:r=rightErr L k g):(s.used=false∧r=28)∨(s.used=true∧(s.gen != g)=true∧r=28)∨(s.used=true∧(s.gen != g)=false∧r=0):=by
 have hk:k<L.length:=(List.getElem?_eq_some_iff.1 hs).1;have hgd:L.getD (k:Int).toNat .none=s:=by simp [List.getD_eq_getElem?_getD,hs]
 have hrr:r=if s.used=true∧s.gen=g then 0 else 28:=by rw [hr,rightErr,if_pos (by omega),hgd]
 obtain ⟨gn,us,a⟩:=s;dsimp only at *;cases us
 ·exact .inl ⟨rfl,by rw [hrr,if_neg (by simp)]⟩
 ·by_cases hg:gn=g
  ·exact .inr (.inr ⟨rfl,by rw [bne_eq_false_iff_eq];exact hg,by rw [hrr,if_pos ⟨rfl,hg⟩]⟩)
  ·exact .inr (.inl ⟨rfl,by rw [bne_iff_ne];exact hg,by rw [hrr,if_neg (fun h=>hg h.2)]⟩)
theorem find20_any (tv ov sv:Value) (m:Mo) (sl g:Int) (r:Int) (hr:r=rightErr m.slots sl g) (w:World) (h:Mod w tv ov sv m):
  Calls Tryz.prog 80 #[.agg #[tv,ov,sv],.agg #[.int .i64 sl,.int .i64 g]] w fun e w'=>e=.returned (.int .i64 r)∧Below w.heap.size w w':=by
 have B:=Below.refl w.heap.size w;have ls:=h.s.len;obtain ⟨NS,hNS⟩:=exq m.slots.length;rw [←hNS] at ls;by_cases hin:0≤sl∧sl<NS
 ·obtain ⟨h0,h1⟩:=hin;obtain ⟨k,rfl⟩:=Int.eq_ofNat_of_zero_le h0;obtain ⟨b,o,s,ia,m0,m1,m2,hs⟩:=h.s.at_ (P:=Tryz.prog) Tryz.underlying29 size_slot (k:=k) (by omega)
  have hcase:=right_case hs.out hr;have n1:¬(k:Int)<0:=by omega
  have n2:¬(NS:Int)≤(k:Int):=by omega
  have n3:¬NS≤k:=by omega
  obtain ⟨gn,us,a⟩:=s;dsimp only at m0 m1 m2 hcase;clear hr h hs hNS h0 h1;rcases hcase with ⟨rfl,rfl⟩ | ⟨rfl,hne,rfl⟩ | ⟨rfl,hne,rfl⟩
  all_goals
   go_in;go_upto_region 1 with (fail)
   refine wpb11 (31) (#[tv,ov,sv]) (39) (#[.int .i64 k,.int .i64 g]) ?_;rintro wa1 ⟨g1,g2,b⟩
   replace m0:=cell_later b m0;replace m1:=cell_later b m1;replace m2:=cell_later b m2;replace B:=B.trans (b.mono B.size);clear b;replace c_g1:=g1.five;replace c_g2:=g2.five;go_wp2
   go_ret
   refine ⟨rfl,?_⟩
   exact bdn
 ·have hr0:r=2:=by rw [hr,rightErr,if_neg (by omega)]
  clear hr h hNS;subst hr0;have hcase:sl<0∨¬sl<0∧(NS:Int)≤sl:=by omega
  clear hin;rcases hcase with h1 | ⟨h1,h2⟩
  all_goals
   go_in;go_upto_region 1 with (fail)
   refine wpb11 (31) (#[tv,ov,sv]) (39) (#[.int .i64 sl,.int .i64 g]) ?_;rintro wa1 ⟨g1,g2,b⟩
   replace B:=B.trans (b.mono B.size);clear b;replace c_g1:=g1.five;replace c_g2:=g2.five;go_wp2
   go_ret
   exact ⟨rfl,B⟩
theorem enter_copied (x:Value) (W:World):(callFunc 38 (#[]++#[x]++#[])).run Tryz.prog W=.ok (.enter 38 #[x]) W:=by
 simp [go_sem]
structure GMod where
 t:Value
 o:Value
 s:Value
 W1:World
def GMod.val (g:GMod):Value:=.agg #[g.t,g.o,g.s]
def wsC (w:World) (p:Nat) (g:GMod):Nat→World
 | 0=>w.drew
 | 1=>g.W1
 | _=>((g.W1.setCell ⟨p,0,none⟩ g.t).setCell ⟨p,1,none⟩ g.o).setCell ⟨p,2,none⟩ g.s
theorem open20_no (tv ov sv:Value) (m:Mo) (sl g:Int) (r:Int) (hr:r=asked m sl g) (h0:r≠0) (w:World) (h:Mod w tv ov sv m):
  Calls Tryz.prog 70 #[.agg #[tv,ov,sv],.agg #[.int .i64 sl,.int .i64 g]] w fun e w'=>e=.returned (.tuple #[.agg #[.slice none 0 0,.slice none 0 0,.slice none 0 0],.int .i64 0,.int .i64 r])∧Below w.heap.size w w':=by
 have B:=Below.refl w.heap.size w;obtain ⟨c,hc⟩:=exq (chk m)
 have CT:=hD (Check20_any tv ov sv m c hc)
 have H:=hD h;by_cases hc0:c=0
 ·have hr1:r=rightErr m.slots sl g:=by rw [hr,asked_eq (by rw [←hc];exact hc0)]
  have FT:=hD (find20_any tv ov sv m sl g r hr1)
  have hne:(r != 0)=true:=by rw [bne_iff_ne];exact h0
  subst hc0;clear hr hr1 h hc h0;go_in;go_upto_region 1 with (fail)
  refine wpb111 (31) (#[tv,ov,sv]) (39) (#[.int .i64 sl,.int .i64 g]) (31) (#[.slice none 0 0,.slice none 0 0,.slice none 0 0]) ?_;rintro wa1 ⟨g1,g2,g3,b⟩
  replace B:=B.trans (b.mono B.size);clear b;replace c_g1:=g1.five;replace c_g2:=g2.five;replace c_g3:=g3.five;go_wp2_with fail;refine (CT.out _ (H.out.below B)).mono ?_;rintro e wa2 ⟨rfl,b⟩
  replace g1:=g1.below b;replace c_g1:=g1.five;replace g2:=g2.below b;replace c_g2:=g2.five;replace g3:=g3.below b;replace c_g3:=g3.five;replace B:=B.trans (b.mono B.size);clear b;go_wp2_with fail;refine (FT.out _ (H.out.below B)).mono ?_;rintro e wa3 ⟨rfl,b⟩
  replace g1:=g1.below b;replace c_g1:=g1.five;replace g2:=g2.below b;replace c_g2:=g2.five;replace g3:=g3.below b;replace c_g3:=g3.five;replace B:=B.trans (b.mono B.size);clear b;go_wp2;refine bodyPost_ret (v:=.tuple #[.agg #[.slice none 0 0,.slice none 0 0,.slice none 0 0],.int .i64 0,.int .i64 r]) (by simp [results,Tryz.results70,go_sem,c_g1,c_g2,c_g3]) rfl ?_;refine ⟨rfl,?_⟩
  exact bdn
 ·have hr1:r=c:=by rw [hr,asked_no (by rw [←hc];exact hc0),hc]
  have hne:(c != 0)=true:=by rw [bne_iff_ne];exact hc0
  subst hr1;clear hr h hc h0 hc0;go_in;go_upto_region 1 with (fail)
  refine wpb111 (31) (#[tv,ov,sv]) (39) (#[.int .i64 sl,.int .i64 g]) (31) (#[.slice none 0 0,.slice none 0 0,.slice none 0 0]) ?_;rintro wa1 ⟨g1,g2,g3,b⟩
  replace B:=B.trans (b.mono B.size);clear b;replace c_g1:=g1.five;replace c_g2:=g2.five;replace c_g3:=g3.five;go_wp2_with fail;refine (CT.out _ (H.out.below B)).mono ?_;rintro e wa2 ⟨rfl,b⟩
  replace g1:=g1.below b;replace c_g1:=g1.five;replace g2:=g2.below b;replace c_g2:=g2.five;replace g3:=g3.below b;replace c_g3:=g3.five;replace B:=B.trans (b.mono B.size);clear b;go_wp2;refine bodyPost_ret (v:=.tuple #[.agg #[.slice none 0 0,.slice none 0 0,.slice none 0 0],.int .i64 0,.int .i64 r]) (by simp [results,Tryz.results70,go_sem,c_g1,c_g2,c_g3]) rfl ?_;refine ⟨rfl,?_⟩
  exact bdn
theorem OwnM.forms {w:World} {B E:Nat} {tv ov sv:Value} {m:Mo} (h:OwnM w B E tv ov sv m):(∃A n c,tv=.slice A n c)∧(∃A n c,ov=.slice A n c)∧∃A n c,sv=.slice A n c:=by
 obtain ⟨⟨_,_,z2,_⟩,⟨_,_,y2,_⟩,s⟩:=h;obtain ⟨A,c,e⟩:=own_form' z2;obtain ⟨A',c',e'⟩:=own_form' y2;obtain ⟨A'',c'',e''⟩:=own_form' s;exact ⟨⟨A,_,c,e⟩,⟨A',_,c',e'⟩,⟨A'',_,c'',e''⟩⟩
theorem open20_ok (tv ov sv:Value) (m:Mo) (sl g:Int) (n:Nat) (h0:asked m sl g=0) (hn:own m sl=n) (w:World) (h:Mod w tv ov sv m):
  Calls Tryz.prog 70 #[.agg #[tv,ov,sv],.agg #[.int .i64 sl,.int .i64 g]] w fun e w'=>∃tv' ov' sv',e=.returned (.tuple #[.agg #[tv',ov',sv'],.int .i64 n,.int .i64 0])∧OwnM w' w.heap.size 37 tv' ov' sv' m∧Below w.heap.size w w':=by
 have B:=Below.refl w.heap.size w;obtain ⟨c0,hr0,k,s,n',o,t,hk,hk16,hs,hu,hg,hso,hat,hown,_⟩:=asked_ok h0;obtain rfl:n'=n:=by rw [←hown,hn]
 subst hk;have CT:=hD (Check20_any tv ov sv m 0 c0.symm)
 have FT:=hD (find20_any tv ov sv m k g 0 hr0.symm)
 have CP:=hD (copied_any tv ov sv m (small_chk c0))
 have hkl:k<m.slots.length:=(List.getElem?_eq_some_iff.1 hs).1;obtain ⟨b,q,s',ia,m0,m1,m2,hs'⟩:=h.s.at_ (P:=Tryz.prog) Tryz.underlying29 size_slot hkl;obtain rfl:s'=s:=by have:=hs'.out;rw [hs] at this;injection this with this;exact this.symm
 rw [hat] at m2;have H:=hD h;clear h0 hr0 hs hs' hu hg hso hat hown hn c0 h m0 m1 hkl;go_in;go_upto_region 1 with (fail)
 refine wpb111 (31) (#[tv,ov,sv]) (39) (#[.int .i64 k,.int .i64 g]) (31) (#[.slice none 0 0,.slice none 0 0,.slice none 0 0]) ?_;rintro wa1 ⟨g1,g2,g3,b⟩
 replace B:=B.trans (b.mono B.size);clear b;replace c_g1:=g1.five;replace c_g2:=g2.five;replace c_g3:=g3.five;go_wp2_with fail;refine (CT.out _ (H.out.below B)).mono ?_;rintro e wa2 ⟨rfl,b⟩
 replace g1:=g1.below b;replace c_g1:=g1.five;replace g2:=g2.below b;replace c_g2:=g2.five;replace g3:=g3.below b;replace c_g3:=g3.five;replace B:=B.trans (b.mono B.size);clear b;go_wp2_with fail;refine (FT.out _ (H.out.below B)).mono ?_;rintro e wa3 ⟨rfl,b⟩
 replace g1:=g1.below b;replace c_g1:=g1.five;replace g2:=g2.below b;replace c_g2:=g2.five;replace g3:=g3.below b;replace c_g3:=g3.five;replace B:=B.trans (b.mono B.size);clear b;go_upto_region 7 with (fail)
 have HG:=hD (And.intro g1 (And.intro g2 (And.intro g3 B)))
 have hB:=B.size;clear c_g1 c_g2 c_g3;refine wp_region_G (val:=GMod.val) (V:=fun g=>OwnM g.W1 wa3.heap.size 37 g.t g.o g.s m∧Below wa3.heap.size wa3 g.W1)
  (F:=fun g=>FL [1,9] (wsC wa3 (w.heap.size+1+1) g) 1 2) [1,1,9] 1 ⟨undef,undef,undef,wa3⟩ 38 #[.agg #[tv,ov,sv]] (fun g=>FL.dep) (by kernel_rfl) (by kernel_rfl) (by kernel_rfl) (fun g g' φ W hφ hF=>FL.agree (Ws:=wsC wa3 (w.heap.size+1+1) g) (Ws':=wsC wa3 (w.heap.size+1+1) g') (k0:=1) rfl rfl hφ hF) FL.start (by decide) ?_ ?_
 ·intro φ W hφ hF;obtain ⟨rfl,_⟩:=FL.step (i:=0) rfl (by decide) hF hφ (by intro p hp;omega) (by omega)
  refine (CP.out wa3.drew (H.out.below B.drew)).mono ?_;rintro e W1 ⟨t',o',s',rfl,om,b1⟩
  have b1':Below wa3.heap.size wa3 W1:=(Below.refl _ wa3).drew.trans b1;have hF':=FL.agree (Ws:=wsC wa3 (w.heap.size+1+1) ⟨undef,undef,undef,wa3⟩) (Ws':=wsC wa3 (w.heap.size+1+1) ⟨t',o',s',W1⟩) (k0:=1) rfl rfl hφ hF;exact ⟨⟨t',o',s',W1⟩,⟨om,b1'⟩,rfl,(FL.step (i:=0) rfl (by decide) hF' hφ (by intro p hp;omega) (by omega)).2⟩
 ·rintro ⟨t',o',s',W1⟩ ⟨om,b1⟩
  dsimp only at om b1 ⊢;obtain ⟨⟨tA,tn,tc,rfl⟩,⟨oA,on,oc,rfl⟩,⟨sA,sn,sc,rfl⟩⟩:=om.forms;have r3:=g3.below b1;have AL:∀d,d≤2→Below w.heap.size w (wsC wa3 (w.heap.size+1+1) ⟨.slice tA tn tc,.slice oA on oc,.slice sA sn sc,W1⟩ d)∧Bx (wsC wa3 (w.heap.size+1+1) ⟨.slice tA tn tc,.slice oA on oc,.slice sA sn sc,W1⟩ d) w.heap.size 31 #[tv,ov,sv]∧Bx (wsC wa3 (w.heap.size+1+1) ⟨.slice tA tn tc,.slice oA on oc,.slice sA sn sc,W1⟩ d) (w.heap.size+1) 39 #[.int .i64 k,.int .i64 g]:=by
   intro d hd;rcases d with _ | _ | d
   ·exact ⟨B.drew,g1,g2⟩
   ·exact ⟨B.trans (b1.mono hB),g1.below b1,g2.below b1⟩
   ·refine ⟨?_,?_,?_⟩
    ·exact (((B.trans (b1.mono hB)).setCell (p:=⟨w.heap.size+1+1,0,none⟩) (by simp;omega) _).setCell (p:=⟨w.heap.size+1+1,1,none⟩) (by simp;omega) _).setCell (p:=⟨w.heap.size+1+1,2,none⟩) (by simp;omega) _
    ·exact (((g1.below b1).far (p:=⟨w.heap.size+1+1,0,none⟩) (by show _≠w.heap.size+1+1;omega) _).far (p:=⟨w.heap.size+1+1,1,none⟩) (by show _≠w.heap.size+1+1;omega) _).far (p:=⟨w.heap.size+1+1,2,none⟩) (by show _≠w.heap.size+1+1;omega) _
    ·exact (((g2.below b1).far (p:=⟨w.heap.size+1+1,0,none⟩) (by show _≠w.heap.size+1+1;omega) _).far (p:=⟨w.heap.size+1+1,1,none⟩) (by show _≠w.heap.size+1+1;omega) _).far (p:=⟨w.heap.size+1+1,2,none⟩) (by show _≠w.heap.size+1+1;omega) _
  have AA:=hD (fun x:FXN (FL [1,9] (wsC wa3 (w.heap.size+1+1) ⟨.slice tA tn tc,.slice oA on oc,.slice sA sn sc,W1⟩) 1 2)=>FL.all (ks:=[1,9]) (Ws:=wsC wa3 (w.heap.size+1+1) ⟨.slice tA tn tc,.slice oA on oc,.slice sA sn sc,W1⟩) (p:=fun W=>Below w.heap.size w W∧Bx W w.heap.size 31 #[tv,ov,sv]∧Bx W (w.heap.size+1) 39 #[.int .i64 k,.int .i64 g]) AL x)
  have ca:=fun x:FXN (FL [1,9] (wsC wa3 (w.heap.size+1+1) ⟨.slice tA tn tc,.slice oA on oc,.slice sA sn sc,W1⟩) 1 2)=>(AA.out x).2.1.cell;have cb:=fun x:FXN (FL [1,9] (wsC wa3 (w.heap.size+1+1) ⟨.slice tA tn tc,.slice oA on oc,.slice sA sn sc,W1⟩) 1 2)=>(AA.out x).2.2.cell;have cc:=fun x:FXN (FL [1,9] (wsC wa3 (w.heap.size+1+1) ⟨.slice tA tn tc,.slice oA on oc,.slice sA sn sc,W1⟩) 1 2)=>cell_later (AA.out x).1 m2
  haveI:Nonempty (FXN (FL [1,9] (wsC wa3 (w.heap.size+1+1) ⟨.slice tA tn tc,.slice oA on oc,.slice sA sn sc,W1⟩) 1 2)):=⟨⟨_,_,FL.start⟩⟩
  refine wpG_read FL.dep rfl (by decide) (by decide) ?_;go_big_quiet_step (fail);refine wpQuiet_nil ?_
  refine wpG_call #[.agg #[tv,ov,sv]] rfl (by simp [Act.eval]) (enter_copied _) ?_;simp only [Act.put,List.setIfInBounds_toArray,List.set_cons_zero,List.set_cons_succ]
  iterate 7 (refine wpG_read FL.dep rfl (by decide) (by decide) ?_;go_big_quiet_step (fail);refine wpQuiet_nil ?_)
  have c3:=r3.cell;have f3:=r3.free;refine wpG_store FL.dep (by decide) rfl 31 (.tmp 4) (.tmp 23) rfl (by rfl) (p:=.pointer (some ⟨w.heap.size+1+1,0,none⟩)) (u:=.agg #[.slice tA tn tc,.slice oA on oc,.slice sA sn sc]) (by rfl) (by rfl) [1] (by kernel_rfl) (fun f W hF h0 h1=>?_) ?_
  ·obtain ⟨rfl,h2⟩:=FL.step (i:=1) rfl (by decide) hF h0 (FL.prev (p:=0) (q:=1) rfl (h1 1 (by simp))) (by omega)
   refine ⟨_,?_,h2⟩
   simp [go_sem,wsC,c3,f3]
  simp only [Act.put,List.setIfInBounds_toArray,List.set_cons_zero,List.set_cons_succ]
  iterate 2 (refine wpG_read FL.dep rfl (by decide) (by decide) ?_;go_big_quiet_step (fail);refine wpQuiet_nil ?_)
  refine wpG_nil ?_;intro w' hw';obtain rfl:=FL.done hw';have HM:=hD (OwnM.set3 (a:=.slice tA tn tc) (b:=.slice oA on oc) (c:=.slice sA sn sc) (om.mono hB) r3)
  have BB:=hD (AL 2 (Nat.le_refl _)).1;have g3':Bx ((((W1.setCell ⟨w.heap.size+1+1,0,none⟩ (.slice tA tn tc)).setCell ⟨w.heap.size+1+1,1,none⟩ (.slice oA on oc)).setCell ⟨w.heap.size+1+1,2,none⟩ (.slice sA sn sc))) (w.heap.size+1+1) 31 #[.slice tA tn tc,.slice oA on oc,.slice sA sn sc]:=by
   have:=((r3.set (i:=0) (.slice tA tn tc)).set (i:=1) (.slice oA on oc)).set (i:=2) (.slice sA sn sc)
   simpa using this
  have c3':=g3'.cell;clear this ca cb cc c3 f3 AL AA om b1 g1 g2 g3 B r3 hw';show _
  generalize hW:(((W1.setCell ⟨w.heap.size+1+1,0,none⟩ (.slice tA tn tc)).setCell ⟨w.heap.size+1+1,1,none⟩ (.slice oA on oc)).setCell ⟨w.heap.size+1+1,2,none⟩ (.slice sA sn sc))=W4 at c3' HM
  have hw4:wsC wa3 (w.heap.size+1+1) ⟨.slice tA tn tc,.slice oA on oc,.slice sA sn sc,W1⟩ [1,9].length=W4:=hW;rw [hw4]
  have BB2:=BB.out;rw [show wsC wa3 (w.heap.size+1+1) ⟨.slice tA tn tc,.slice oA on oc,.slice sA sn sc,W1⟩ 2=W4 from hW] at BB2;have BB3:=hD BB2;clear hW hw4 BB BB2 g3';go_wp2;refine bodyPost_ret (v:=.tuple #[.agg #[.slice tA tn tc,.slice oA on oc,.slice sA sn sc],.int .i64 n',.int .i64 0]) (by simp [results,Tryz.results70,go_sem,c3']) rfl ?_;exact ⟨_,_,_,rfl,HM.out,BB3.out⟩
end
end Go.Proofs.YteejianjjpdimaaGreat
