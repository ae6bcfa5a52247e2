/- Contracts of the functions that the laws 'C' reach, part 6. No condition. -/
import Derived.Test.YteejianjjpdimaaMCe
set_option linter.unusedVariables false
set_option linter.unusedSimpArgs false
set_option maxRecDepth 100000
set_option maxHeartbeats 8000000
namespace Go.Proofs.Yteejianjjpdimaa
section
open Go.RowKit L02 L13 L18 L20
def wtT (w:World) (p:Nat) (y v:Value) (W2 W4:World):Nat→World
 | 0=>w.drew
 | 1=>w.drew.alloc (.cells #[] 5)
 | 2=>W2
 | 3=>W2.alloc (.cells #[y] 41)
 | 4=>W4
 | _=>W4.setCell ⟨p,0,none⟩ v
def wtO (w:World) (p:Nat) (ty:Int) (y v:Value) (W2 W4:World):Nat→World
 | 0=>w.drew
 | 1=>w.drew.alloc (.cells #[] 46)
 | 2=>W2
 | 3=>W2
 | 4=>W2.alloc (.cells #[i64 ty,y] 45)
 | 5=>W4
 | _=>W4.setCell ⟨p,1,none⟩ v
theorem TwinM_any (tv ov sv:Value) (m:Mo) (hsm:Small m) (w:World) (h:Mod w tv ov sv m):
  Calls Try.prog 13 #[.agg #[tv,ov,sv]] w fun e w'=>∃tv' ov' sv',e=.returned (.agg #[tv',ov',sv'])∧OwnM w' w.heap.size 48 tv' ov' sv' m∧Below w.heap.size w w':=by
 have B:=Below.refl w.heap.size w;have lt:=h.t.len;have lo:=h.o.len;obtain ⟨NT,hNT⟩:=exq m.types.length;obtain ⟨NO,hNO⟩:=exq m.objs.length;rw [←hNT] at lt;rw [←hNO] at lo;obtain ⟨s1,s2,s3,s4,s5⟩:=hsm;have hNT20:NT≤20:=by omega
 have hNO962:NO≤962:=by omega
 have H:=hD h;have HNT:=hD hNT;have HNO:=hD hNO;have S3:=hD s3;have S4:=hD s4;have S5:=hD s5;clear h hNT hNO s4 s5 s1 s2 s3;go_in;go_upto_region 2 with (fail)
 refine wpb111 (26) (#[tv,ov,sv]) (26) (#[.slice none 0 0,.slice none 0 0,.slice none 0 0]) (26) (#[.slice none 0 0,.slice none 0 0,.slice none 0 0]) ?_;rintro wa1 ⟨g1,g2,g3,b⟩
 replace B:=B.trans (b.mono B.size);clear b;replace c_g1:=g1.five;replace c_g2:=g2.five;replace c_g3:=g3.five
 generalize hpp:w.heap.size+1+1=p at*
 have hB0:w.heap.size+2=p:=by omega
 clear hpp;have HB:=hD B;have HG:=hD (And.intro g1 (And.intro g2 g3))
 clear B g1 g2 g3 c_g1 c_g2 c_g3;have hwa:=HG.out.1.cell;go_wp2;clear hwa
 go_loopg [4] NT (fun g i wr=>∃j:Nat,j≤NT∧g=NT-j∧i=.int .i64 j∧Hid (∃xt,OwnT wr w.heap.size xt (m.types.take j)∧Bx wr w.heap.size 26 #[tv,ov,sv]∧Bx wr (w.heap.size+1) 26 #[.slice none 0 0,.slice none 0 0,.slice none 0 0]∧Bx wr p 26 #[xt,.slice none 0 0,.slice none 0 0]∧Below w.heap.size w wr))
 case atStart=>exact ⟨0,by omega,by omega,rfl,hD ⟨_,OwnT.nil _ _,HG.out.1,HG.out.2.1,HG.out.2.2,HB.out⟩⟩
 case round=>
  clear HG HB;obtain ⟨j,hj,rfl,rfl,hh⟩:=hrel;by_cases hlt:j<NT
  ·obtain ⟨xt,oT,q1,q2,q3,B⟩:=hh.out;obtain ⟨ad,x,t,ix,m0,ht,hby⟩:=H.out.t.at_ (k:=j) (by have:=HNT.out;omega)
   have htl:t.length≤20:=S4.out t (List.mem_of_getElem? ht.out)
   obtain ⟨vs,z1,z2,z4⟩:=oT;have hB:=B.size;have htk:(m.types.take j).length=j:=by rw [List.length_take];have:=HNT.out;omega
   have c1:=q1.cell;go_upto_region 5 with (fail)
   have HT:=hD ht;clear hh;have b1:Below wr.heap.size wr (wr.drew.alloc (.cells #[] 5)):=((Below.refl _ wr).drew).alloc (Nat.le_refl _) _;have r1:=run_lit0 (P:=Try.prog) (t:=41) (e:=5) wr.drew Try.underlying41 (by kernel_rfl)
   replace r1:(Instr.buildSlice 41 0 #[]).run Try.prog wr.drew=.ok (.slice (some ⟨wr.heap.size,0,none⟩) 0 0) (wr.drew.alloc (.cells #[] 5)):=r1;obtain ⟨y,W2,r2,o2,gr2⟩:=run_append_rd (P:=Try.prog) (w:=wr.drew.alloc (.cells #[] 5)) (ty:=41) Try.underlying41 info_u8 rfl (by omega) (lit0_own (B:=wr.heap.size) (w:=wr.drew) (e:=5) (sz:=1) (Nat.le_refl _)) (hby.out.below (B.trans (b1.mono hB))) (one_u8s _) (by omega) (by omega) b1.size;replace r2:(Builtin.append_ #[41,41] 41 #[.slice (some ⟨wr.heap.size,0,none⟩) 0 0,x]).run Try.prog (wr.drew.alloc (.cells #[] 5))=.ok y W2:=r2;have b2:Below wr.heap.size wr W2:=b1.grown gr2 b1.size (fun k hk=>(lit0_own (B:=wr.heap.size) (w:=wr.drew) (e:=5) (sz:=1) (Nat.le_refl _) |>.lt k hk).1)
   have oy:OwnB W2 wr.heap.size 5 y t:=OwnB.of o2 (by simp)
   have hz:=b2.size;obtain ⟨v,W4,r3,o3,gr3⟩:=run_append_rd (P:=Try.prog) (w:=W2.alloc (.cells #[y] 41)) (ty:=22) (B:=w.heap.size) Try.underlying22 info_bytes rfl (by omega) (own_below z2 (b2.alloc hz _)) lit_rd (by intro u hu;simp at hu;subst hu;exact (OwnB.rd oy).oneCell) (by omega) (by omega) (by simp;omega)
   rw [htk] at o3
   -- (slots: none yet)
   have oS0:OwnS wr w.heap.size 48 (.slice none 0 0) []:=OwnS.nil _ _ _;have MM:=hD (copyT_mem (t:=t) (a:=w.heap.size) (b:=w.heap.size+1) (p:=p) z1 z2 z4 oy b2 o3 gr3 q1 q2 q3 oS0 B hB (by omega) (by omega) (by omega) (Nat.le_refl _))
   have b3:=b2.alloc hz (.cells #[y] 41)
   have q14:Bx W4 w.heap.size 26 #[tv,ov,sv]:=Bx.grown (q1.below b3) gr3 (own_not_bx (own_below z2 b3) (q1.below b3) (by decide))
   have B4:Below w.heap.size w W4:=(B.trans (b3.mono hB)).grown gr3 (Nat.le_trans hB b3.size) (fun k hk=>((own_below z2 b3).lt k hk).1)
   obtain ⟨yyA,yyn,yyc,rfl⟩:∃A n c,y=.slice A n c:=by obtain ⟨A,c,e⟩:=own_form' oy;exact ⟨A,_,c,e⟩
   obtain ⟨vA,vn,vc,rfl⟩:∃A n c,v=.slice A n c:=by obtain ⟨A,c,e⟩:=own_form' o3;exact ⟨A,_,c,e⟩
   have AL:∀d,d≤5→Below w.heap.size w (wtT wr p (.slice yyA yyn yyc) (.slice vA vn vc) W2 W4 d)∧Bx (wtT wr p (.slice yyA yyn yyc) (.slice vA vn vc) W2 W4 d) w.heap.size 26 #[tv,ov,sv]:=by
    intro d hd;rcases d with _ | _ | _ | _ | _ | d
    ·exact ⟨B.drew,q1⟩
    ·exact ⟨B.trans (b1.mono hB),q1.below b1⟩
    ·exact ⟨B.trans (b2.mono hB),q1.below b2⟩
    ·exact ⟨B.trans (b3.mono hB),q1.below b3⟩
    ·exact ⟨B4,q14⟩
    ·exact ⟨MM.out.2.2.2.2.2.2,MM.out.2.2.1⟩
   have ca:=fun x:FXN (FL [2,8,9,10,12] (wtT wr p (.slice yyA yyn yyc) (.slice vA vn vc) W2 W4) 1 3)=>(FL.all (ks:=[2,8,9,10,12]) (Ws:=wtT wr p (.slice yyA yyn yyc) (.slice vA vn vc) W2 W4) (p:=fun W=>Below w.heap.size w W∧Bx W w.heap.size 26 #[tv,ov,sv]) AL x).2.cell;have cb:=fun y:FXN (FL [2,8,9,10,12] (wtT wr p (.slice yyA yyn yyc) (.slice vA vn vc) W2 W4) 1 3)=>cell_later (FL.all (ks:=[2,8,9,10,12]) (Ws:=wtT wr p (.slice yyA yyn yyc) (.slice vA vn vc) W2 W4) (p:=fun W=>Below w.heap.size w W∧Bx W w.heap.size 26 #[tv,ov,sv]) AL y).1 m0;have p0:=q3.cell 0;have p1:=(q3.below b1).cell 0;have p2:=(q3.below b2).cell 0;have p3:=(q3.below b3).cell 0
   haveI:Nonempty (FXN (FL [2,8,9,10,12] (wtT wr p (.slice yyA yyn yyc) (.slice vA vn vc) W2 W4) 1 3)):=⟨⟨_,_,FL.start⟩⟩
   clear c1;refine wp_region_N (FL [2,8,9,10,12] (wtT wr p (.slice yyA yyn yyc) (.slice vA vn vc) W2 W4) 1 3) [1,2,8,9,10,12] FL.dep (by kernel_rfl) (by kernel_rfl) (by kernel_rfl) FL.start ?_;refine wpN_read FL.dep rfl (by decide) ?_;go_big_quiet_step (fail);refine wpQuiet_nil ?_
   refine wpN_step FL.dep rfl (by rfl) (v:=xt) [] rfl (fun f W hF h0 _=>?_) ?_
   ·obtain ⟨⟨d,hd,hd2,rfl⟩,hF'⟩:=FL.read (by decide) hF h0;refine ⟨_,?_,hF'⟩
    have hc:(wtT wr p (.slice yyA yyn yyc) (.slice vA vn vc) W2 W4 d).cell? ⟨p,0,none⟩=some xt:=by
     rcases d with _ | _ | _ | _ | d
     ·exact p0
     ·exact p1
     ·exact p2
     ·exact p3
     ·omega
    simp [execOp,go_sem,hc]
   simp only [Act.put,List.setIfInBounds_toArray,List.set_cons_zero,List.set_cons_succ]
   refine wpN_step FL.dep rfl (by rfl) (v:=.slice (some ⟨wr.heap.size,0,none⟩) 0 0) [] (by kernel_rfl) (fun f W hF h0 h1=>?_) ?_
   ·obtain ⟨rfl,h2⟩:=FL.step (i:=0) rfl (by decide) hF h0 (by intro p hp;omega) (by omega)
    exact ⟨_,by simp [execOp,wtT,r1],h2⟩
   simp only [Act.put,List.setIfInBounds_toArray,List.set_cons_zero,List.set_cons_succ]
   iterate 5 (refine wpN_read FL.dep rfl (by decide) ?_;go_big_quiet_step (fail);refine wpQuiet_nil ?_)
   refine wpN_step FL.dep rfl (by rfl) (v:=.slice yyA yyn yyc) [2] (by kernel_rfl) (fun f W hF h0 h1=>?_) ?_
   ·obtain ⟨rfl,h2⟩:=FL.step (i:=1) rfl (by decide) hF h0 (FL.prev (p:=0) (q:=2) rfl (h1 2 (by simp))) (by omega)
    exact ⟨_,by simp [execOp,resolve,invoke,builtin,Act.eval,wtT,r2],h2⟩
   simp only [Act.put,List.setIfInBounds_toArray,List.set_cons_zero,List.set_cons_succ]
   refine wpN_step FL.dep rfl (by rfl) (v:=.slice (some ⟨W2.heap.size,0,none⟩) 1 1) [8] (by kernel_rfl) (fun f W hF h0 h1=>?_) ?_
   ·obtain ⟨rfl,h2⟩:=FL.step (i:=2) rfl (by decide) hF h0 (FL.prev (p:=1) (q:=8) rfl (h1 8 (by simp))) (by omega)
    exact ⟨_,by simp [execOp,go_sem,wtT],h2⟩
   simp only [Act.put,List.setIfInBounds_toArray,List.set_cons_zero,List.set_cons_succ]
   refine wpN_step FL.dep rfl (by rfl) (v:=.slice vA vn vc) [9,1] (by kernel_rfl) (fun f W hF h0 h1=>?_) ?_
   ·obtain ⟨rfl,h2⟩:=FL.step (i:=3) rfl (by decide) hF h0 (FL.prev (p:=2) (q:=9) rfl (h1 9 (by simp))) (fun _=>h1 1 (by simp))
    exact ⟨_,by simp [execOp,resolve,invoke,builtin,Act.eval,wtT,r3],h2⟩
   simp only [Act.put,List.setIfInBounds_toArray,List.set_cons_zero,List.set_cons_succ]
   refine wpN_read FL.dep rfl (by decide) ?_;go_big_quiet_step (fail);refine wpQuiet_nil ?_
   refine wpN_storeD FL.dep rfl 22 (.tmp 24) (.tmp 23) rfl (by rfl) (p:=.pointer (some ⟨p,0,none⟩)) (u:=.slice vA vn vc) (by rfl) (by rfl) [10] (by kernel_rfl) (fun f W hF h0 h1=>?_) ?_
   ·obtain ⟨rfl,h2⟩:=FL.step (i:=4) rfl (by decide) hF h0 (FL.prev (p:=3) (q:=10) rfl (h1 10 (by simp))) (by omega)
    refine ⟨_,?_,h2⟩
    have hc:=MM.out.1.1;have hf:=MM.out.1.2;simp [go_sem,wtT,hc,hf]
   show ∀w',_→_;intro w' hw';obtain rfl:=FL.done hw';have HM:=hD (MM.out.2)
   clear this MM q1 q2 q3 oS0 B z1 z2 z4 hw' r1 r2 r3 oy b1 b2 b3 p0 p1 p2 p3 AL ca cb q14 B4 o2 o3 gr2 gr3 m0;go_wp2
   go_roundg (NT-(j+1))
   case measure=>omega
   case rel=>
    obtain ⟨k1,k2,k3,k4,_,k6⟩:=HM.out;refine ⟨j+1,by omega,rfl,by go_num,hD ⟨_,?_,k2,k3,k4,k6⟩⟩
    rwa [List.take_add_one,HT.out.out]
  ·obtain rfl:j=NT:=by omega
   obtain ⟨xt,oT,q1,q2,q3,B⟩:=hh.out;rw [List.take_of_length_le (by have:=HNT.out;omega)] at oT;clear hh;have hwa:=q1.cell;have HG:=hD (And.intro q1 (And.intro q2 (And.intro q3 oT)));have HB:=hD B;clear q1 q2 q3 oT B;go_wp2;clear hwa
   go_loopg [5] NO (fun g i wr=>∃k:Nat,k≤NO∧g=NO-k∧i=.int .i64 k∧Hid (∃ot,OwnO wr w.heap.size ot (m.objs.take k)∧Bx wr w.heap.size 26 #[tv,ov,sv]∧Bx wr (w.heap.size+1) 26 #[.slice none 0 0,.slice none 0 0,.slice none 0 0]∧Bx wr p 26 #[xt,ot,.slice none 0 0]∧OwnT wr w.heap.size xt m.types∧Below w.heap.size w wr))
   case atStart=>exact ⟨0,by omega,by omega,rfl,hD ⟨_,OwnO.nil _ _,HG.out.1,HG.out.2.1,HG.out.2.2.1,HG.out.2.2.2,HB.out⟩⟩
   case round=>
    clear HG HB;obtain ⟨k,hk,rfl,rfl,hh⟩:=hrel;by_cases hltk:k<NO
    ·obtain ⟨ot,oO,q1,q2,q3,oT,B⟩:=hh.out;obtain ⟨ob,oq,x,o,ix,m0,m1,ho,hx,hob⟩:=H.out.o.at_ (k:=k) (by have:=HNO.out;omega)
     have hol:o.fs.length≤20:=S5.out o (List.mem_of_getElem? ho.out)
     have hxx:=hx.out;have htk:(m.objs.take k).length=k:=by rw [List.length_take];have:=HNO.out;omega
     obtain ⟨xA,xn,xc,rfl⟩:∃A n c,x=.slice A n c:=by obtain ⟨A,c,e,_⟩:=hxx;exact ⟨A,_,c,e⟩
     obtain ⟨vs,z1,z2,z4,z5⟩:=oO;have hB:=B.size;have c1:=q1.cell;go_upto_region 9 with (fail)
     have HT:=hD ho;clear hh hx;have b1:Below wr.heap.size wr (wr.drew.alloc (.cells #[] 46)):=((Below.refl _ wr).drew).alloc (Nat.le_refl _) _;have r1:=run_lit0 (P:=Try.prog) (t:=43) (e:=46) wr.drew Try.underlying43 (by kernel_rfl)
     replace r1:(Instr.buildSlice 43 0 #[]).run Try.prog wr.drew=.ok (.slice (some ⟨wr.heap.size,0,none⟩) 0 0) (wr.drew.alloc (.cells #[] 46)):=r1;obtain ⟨y,W2,r2,o2,gr2⟩:=run_append_rd (P:=Try.prog) (w:=wr.drew.alloc (.cells #[] 46)) (ty:=43) Try.underlying43 info_u64 rfl (by omega) (lit0_own (B:=wr.heap.size) (w:=wr.drew) (e:=46) (sz:=1) (Nat.le_refl _)) (hxx.below (B.trans (b1.mono hB))) (one_u64s _) (by omega) (by omega) b1.size;replace r2:(Builtin.append_ #[43,43] 43 #[.slice (some ⟨wr.heap.size,0,none⟩) 0 0,.slice xA xn xc]).run Try.prog (wr.drew.alloc (.cells #[] 46))=.ok y W2:=r2;have b2:Below wr.heap.size wr W2:=b1.grown gr2 b1.size (fun k hk=>(lit0_own (B:=wr.heap.size) (w:=wr.drew) (e:=46) (sz:=1) (Nat.le_refl _) |>.lt k hk).1)
     have oy:OwnW W2 wr.heap.size 46 y o.fs:=OwnW.of o2 (by simp)
     have hz:=b2.size;obtain ⟨v,W4,r3,o3,gr3⟩:=run_append_rd (P:=Try.prog) (w:=W2.alloc (.cells #[i64 o.ty,y] 45)) (ty:=23) (B:=w.heap.size) Try.underlying23 info_obj rfl (by omega) (own_below z2 (b2.alloc hz _)) lit_obj (one_obj (OwnW.rd oy).oneCell) (by omega) (by omega) (by simp;omega)
     rw [htk] at o3;have oS0:OwnS wr w.heap.size 48 (.slice none 0 0) []:=OwnS.nil _ _ _;have hlt0:=own_not_bx z2 q1 (by decide)
     have MM:=hD (copyO_mem (o:=o) (a:=w.heap.size) (b:=w.heap.size+1) (p:=p) z1 z2 z4 z5 oy b2 o3 gr3 q1 q2 q3 oT oS0 B hB (by omega) (by omega) (by omega) q1 hlt0 (by omega))
     have b3:=b2.alloc hz (.cells #[i64 o.ty,y] 45)
     have B4:Below w.heap.size w W4:=(B.trans (b3.mono hB)).grown gr3 (Nat.le_trans hB b3.size) (fun k hk=>((own_below z2 b3).lt k hk).1)
     obtain ⟨yyA,yyn,yyc,rfl⟩:∃A n c,y=.slice A n c:=by obtain ⟨A,c,e⟩:=own_form' oy;exact ⟨A,_,c,e⟩
     obtain ⟨vA,vn,vc,rfl⟩:∃A n c,v=.slice A n c:=by obtain ⟨A,c,e⟩:=own_form' o3;exact ⟨A,_,c,e⟩
     have AL:∀d,d≤6→Below w.heap.size w (wtO wr p o.ty (.slice yyA yyn yyc) (.slice vA vn vc) W2 W4 d)∧Bx (wtO wr p o.ty (.slice yyA yyn yyc) (.slice vA vn vc) W2 W4 d) w.heap.size 26 #[tv,ov,sv]:=by
      intro d hd;rcases d with _ | _ | _ | _ | _ | _ | d
      ·exact ⟨B.drew,q1⟩
      ·exact ⟨B.trans (b1.mono hB),q1.below b1⟩
      ·exact ⟨B.trans (b2.mono hB),q1.below b2⟩
      ·exact ⟨B.trans (b2.mono hB),q1.below b2⟩
      ·exact ⟨B.trans (b3.mono hB),q1.below b3⟩
      ·exact ⟨B4,MM.out.2.2.2.2.2.2.2.2.1⟩
      ·exact ⟨MM.out.2.2.2.2.2.2.2.1,MM.out.2.2.1⟩
     have ca:=fun x:FXN (FL [8,15,16,17,18,20] (wtO wr p o.ty (.slice yyA yyn yyc) (.slice vA vn vc) W2 W4) 1 4)=>(FL.all (ks:=[8,15,16,17,18,20]) (Ws:=wtO wr p o.ty (.slice yyA yyn yyc) (.slice vA vn vc) W2 W4) (p:=fun W=>Below w.heap.size w W∧Bx W w.heap.size 26 #[tv,ov,sv]) AL x).2.cell;have cb:=fun y:FXN (FL [8,15,16,17,18,20] (wtO wr p o.ty (.slice yyA yyn yyc) (.slice vA vn vc) W2 W4) 1 4)=>cell_later (FL.all (ks:=[8,15,16,17,18,20]) (Ws:=wtO wr p o.ty (.slice yyA yyn yyc) (.slice vA vn vc) W2 W4) (p:=fun W=>Below w.heap.size w W∧Bx W w.heap.size 26 #[tv,ov,sv]) AL y).1 m0;have cc:=fun y:FXN (FL [8,15,16,17,18,20] (wtO wr p o.ty (.slice yyA yyn yyc) (.slice vA vn vc) W2 W4) 1 4)=>cell_later (FL.all (ks:=[8,15,16,17,18,20]) (Ws:=wtO wr p o.ty (.slice yyA yyn yyc) (.slice vA vn vc) W2 W4) (p:=fun W=>Below w.heap.size w W∧Bx W w.heap.size 26 #[tv,ov,sv]) AL y).1 m1;have p0:=q3.cell 1;have p1:=(q3.below b1).cell 1;have p2:=(q3.below b2).cell 1;have p3:=(q3.below b3).cell 1
     haveI:Nonempty (FXN (FL [8,15,16,17,18,20] (wtO wr p o.ty (.slice yyA yyn yyc) (.slice vA vn vc) W2 W4) 1 4)):=⟨⟨_,_,FL.start⟩⟩
     clear c1;refine wp_region_N (FL [8,15,16,17,18,20] (wtO wr p o.ty (.slice yyA yyn yyc) (.slice vA vn vc) W2 W4) 1 4) [1,8,15,16,17,18,20] FL.dep (by kernel_rfl) (by kernel_rfl) (by kernel_rfl) FL.start ?_;refine wpN_read FL.dep rfl (by decide) ?_;go_big_quiet_step (fail);refine wpQuiet_nil ?_
     refine wpN_step FL.dep rfl (by rfl) (v:=ot) [] rfl (fun f W hF h0 _=>?_) ?_
     ·obtain ⟨⟨d,hd,hd2,rfl⟩,hF'⟩:=FL.read (by decide) hF h0;refine ⟨_,?_,hF'⟩
      have hc:(wtO wr p o.ty (.slice yyA yyn yyc) (.slice vA vn vc) W2 W4 d).cell? ⟨p,1,none⟩=some ot:=by
       rcases d with _ | _ | _ | _ | _ | d
       ·exact p0
       ·exact p1
       ·exact p2
       ·exact p2
       ·exact p3
       ·omega
      simp [execOp,go_sem,hc]
     simp only [Act.put,List.setIfInBounds_toArray,List.set_cons_zero,List.set_cons_succ]
     iterate 6 (refine wpN_read FL.dep rfl (by decide) ?_;go_big_quiet_step (fail);refine wpQuiet_nil ?_)
     refine wpN_step FL.dep rfl (by rfl) (v:=.slice (some ⟨wr.heap.size,0,none⟩) 0 0) [] (by kernel_rfl) (fun f W hF h0 h1=>?_) ?_
     ·obtain ⟨rfl,h2⟩:=FL.step (i:=0) rfl (by decide) hF h0 (by intro p hp;omega) (by omega)
      exact ⟨_,by simp [execOp,wtO,r1],h2⟩
     simp only [Act.put,List.setIfInBounds_toArray,List.set_cons_zero,List.set_cons_succ]
     iterate 6 (refine wpN_read FL.dep rfl (by decide) ?_;go_big_quiet_step (fail);refine wpQuiet_nil ?_)
     refine wpN_step FL.dep rfl (by rfl) (v:=.slice yyA yyn yyc) [8] (by kernel_rfl) (fun f W hF h0 h1=>?_) ?_
     ·obtain ⟨rfl,h2⟩:=FL.step (i:=1) rfl (by decide) hF h0 (FL.prev (p:=0) (q:=8) rfl (h1 8 (by simp))) (by omega)
      exact ⟨_,by simp [execOp,resolve,invoke,builtin,Act.eval,wtO,r2],h2⟩
     simp only [Act.put,List.setIfInBounds_toArray,List.set_cons_zero,List.set_cons_succ]
     refine wpN_step FL.dep rfl (by rfl) (v:=.agg #[i64 o.ty,.slice yyA yyn yyc]) [15] (by kernel_rfl) (fun f W hF h0 h1=>?_) ?_
     ·obtain ⟨rfl,h2⟩:=FL.step (i:=2) rfl (by decide) hF h0 (FL.prev (p:=1) (q:=15) rfl (h1 15 (by simp))) (by omega)
      exact ⟨_,by simp [execOp,go_sem,wtO,i64],h2⟩
     simp only [Act.put,List.setIfInBounds_toArray,List.set_cons_zero,List.set_cons_succ]
     refine wpN_step FL.dep rfl (by rfl) (v:=.slice (some ⟨W2.heap.size,0,none⟩) 1 1) [16] (by kernel_rfl) (fun f W hF h0 h1=>?_) ?_
     ·obtain ⟨rfl,h2⟩:=FL.step (i:=3) rfl (by decide) hF h0 (FL.prev (p:=2) (q:=16) rfl (h1 16 (by simp))) (by omega)
      exact ⟨_,by simp [execOp,go_sem,wtO,i64],h2⟩
     simp only [Act.put,List.setIfInBounds_toArray,List.set_cons_zero,List.set_cons_succ]
     refine wpN_step FL.dep rfl (by rfl) (v:=.slice vA vn vc) [17,1] (by kernel_rfl) (fun f W hF h0 h1=>?_) ?_
     ·obtain ⟨rfl,h2⟩:=FL.step (i:=4) rfl (by decide) hF h0 (FL.prev (p:=3) (q:=17) rfl (h1 17 (by simp))) (fun _=>h1 1 (by simp))
      exact ⟨_,by simp [execOp,resolve,invoke,builtin,Act.eval,wtO,r3],h2⟩
     simp only [Act.put,List.setIfInBounds_toArray,List.set_cons_zero,List.set_cons_succ]
     refine wpN_read FL.dep rfl (by decide) ?_;go_big_quiet_step (fail);refine wpQuiet_nil ?_
     refine wpN_storeD FL.dep rfl 23 (.tmp 51) (.tmp 50) rfl (by rfl) (p:=.pointer (some ⟨p,1,none⟩)) (u:=.slice vA vn vc) (by rfl) (by rfl) [18] (by kernel_rfl) (fun f W hF h0 h1=>?_) ?_
     ·obtain ⟨rfl,h2⟩:=FL.step (i:=5) rfl (by decide) hF h0 (FL.prev (p:=4) (q:=18) rfl (h1 18 (by simp))) (by omega)
      refine ⟨_,?_,h2⟩
      have hc:=MM.out.1.1;have hf:=MM.out.1.2;simp [go_sem,wtO,hc,hf]
     show ∀w',_→_;intro w' hw';obtain rfl:=FL.done hw';have HM:=hD (MM.out.2)
     clear this MM q1 q2 q3 oS0 oT B z1 z2 z4 z5 hw' r1 r2 r3 oy b1 b2 b3 p0 p1 p2 p3 AL ca cb cc B4 o2 o3 gr2 gr3 m0 m1 hxx hlt0;go_wp2
     go_roundg (NO-(k+1))
     case measure=>omega
     case rel=>
      obtain ⟨k1,k2,k3,k4,k5,_,k7,_⟩:=HM.out;refine ⟨k+1,by omega,rfl,by go_num,hD ⟨_,?_,k2,k3,k4,k5,k7⟩⟩
      rwa [List.take_add_one,HT.out.out]
    ·obtain rfl:k=NO:=by omega
     obtain ⟨ot,oO,q1,q2,q3,oT,B⟩:=hh.out;rw [List.take_of_length_le (by have:=HNO.out;omega)] at oO;obtain ⟨oA,on,oc,rfl⟩:∃A n c,ot=.slice A n c:=by obtain ⟨vs,_,z2,_⟩:=oO;obtain ⟨A,c,e⟩:=own_form' z2;exact ⟨A,_,c,e⟩
     obtain ⟨xA,xn,xc,rfl⟩:∃A n c,xt=.slice A n c:=by obtain ⟨vs,_,z2,_⟩:=oT;obtain ⟨A,c,e⟩:=own_form' z2;exact ⟨A,_,c,e⟩
     have hsv:=(H.out.s.below B)
     have hln:=S3.out;have c1:=q1.cell;have HQ:=hD (And.intro q1 (And.intro q2 (And.intro q3 (And.intro oT (And.intro oO B)))))
     have HS:=hD hsv;have a1:=fun o=>(q1.alloc o).cell;have hzB:=B.size;clear hh q1 q2 q3 oT oO B hsv;go_wp2_with (at_builtin;refine wpList_append (by rfl) rfl rfl rfl Try.underlying24 info_slot rfl (by omega) (by exact lit0_own (B:=wr.heap.size) (Nat.le_refl _)) (by exact HS.out.alloc _) (by exact tabL_one _) (by omega) (by omega) (by exact (Below.refl _ wr).alloc (Nat.le_refl _) _) (Nat.le_refl _) ?_;intro v1 w3 o3 B3 g3;obtain ⟨sA,sn,sc,rfl⟩:∃A n c,v1=.slice A n c:=by { obtain ⟨A,c,e⟩:=own_form' o3;exact ⟨A,_,c,e⟩ };clear g3;have c2:=(HQ.out.2.1.below B3).cell;have f2:=(HQ.out.2.1.below B3).free;have c3:=(HQ.out.2.2.1.below B3).cell;have f3:=(HQ.out.2.2.1.below B3).free)
     refine bodyPost_ret (v:=.agg #[.slice xA xn xc,.slice oA on oc,.slice sA sn sc]) (by simp [results,Try.results13,go_sem,c2,c3,f2,f3]) rfl ?_;obtain ⟨q1,q2,q3,oT,oO,B⟩:=HQ.out;have oS:OwnS w3 w.heap.size 48 (.slice sA sn sc) m.slots:=by
      have:=own_mono o3 hzB;unfold OwnS;simpa using this
     have hM:OwnM w3 w.heap.size 48 (.slice xA xn xc) (.slice oA on oc) (.slice sA sn sc) m:=⟨oT.below B3,oO.below B3,oS⟩
     have q2':=(q2.below B3).far (p:=⟨p,2,none⟩) (by show w.heap.size+1≠p;omega) (.slice sA sn sc)
     refine ⟨_,_,_,rfl,OwnM.set3 (hM.set (q3.below B3)) q2',?_⟩
     have B5:=(B.trans (B3.mono hzB)).setCell (p:=⟨p,2,none⟩) (by show w.heap.size≤p;omega) (.slice sA sn sc)
     exact ((B5.setCell (p:=⟨w.heap.size+1,0,none⟩) (by simp) _).setCell (p:=⟨w.heap.size+1,1,none⟩) (by simp) _).setCell (p:=⟨w.heap.size+1,2,none⟩) (by simp) _
end
section
open Go.RowKit L02 L13 L18 L20
theorem Great20_any (tv ov sv:Value) (m:Mo) (b:Bool) (hb:b=decide (Great m)) (w:World) (h:Mod w tv ov sv m):
  Calls Try.prog 23 #[.agg #[tv,ov,sv]] w fun e w'=>e=.returned (.bool b)∧Below w.heap.size w w':=by
 have B:=Below.refl w.heap.size w;have lt:=h.t.len;have lo:=h.o.len;have ls:=h.s.len;have lt':=h.t.len_le;have lo':=h.o.len_le;have hyes:Great m→b=true:=fun hg=>by rw [hb,decide_eq_true hg]
 have hno:¬Great m→b=false:=fun hg=>by rw [hb,decide_eq_false hg]
 obtain ⟨NT,hNT⟩:=exq m.types.length;obtain ⟨NO,hNO⟩:=exq m.objs.length;obtain ⟨NS,hNS⟩:=exq m.slots.length;rw [←hNT] at lt lt';rw [←hNO] at lo lo';rw [←hNS] at ls;have H:=hD h;have HNT:=hD hNT;have HNO:=hD hNO;have HNS:=hD hNS;have HY:=hD hyes;have HN:=hD hno;clear h hb hNT hNO hNS hyes hno;by_cases h0:(40<NO∧NO<960)∨962<NO∨20<NT∨30<NS
 ·have hbt:b=true:=HY.out (by
   have h1:=HNT.out;have h2:=HNO.out;have h3:=HNS.out;unfold Great;rw [←h1,←h2,←h3]
   rcases h0 with h | h | h | h
   ·exact .inl h
   ·exact .inr (.inl h)
   ·exact .inr (.inr (.inl h))
   ·exact .inr (.inr (.inr (.inl h))))
  subst hbt;have hcase:(40<NO∧NO<960)∨(40<NO∧¬NO<960∧962<NO)∨(40<NO∧¬NO<960∧¬962<NO∧20<NT)∨(40<NO∧¬NO<960∧¬962<NO∧¬20<NT∧30<NS)∨(¬40<NO∧¬962<NO∧20<NT)∨(¬40<NO∧¬962<NO∧¬20<NT∧30<NS):=by omega
  clear h0;rcases hcase with ⟨a1,a2⟩ | ⟨a1,a2,a3⟩ | ⟨a1,a2,a3,a4⟩ | ⟨a1,a2,a3,a4,a5⟩ | ⟨a1,a2,a3⟩ | ⟨a1,a2,a3,a4⟩
  all_goals
   go_in;go_wp2
   go_ret
   exact ⟨rfl,B.alloc B.size _⟩
 ·have hcase:(¬40<NO∧¬962<NO)∨(40<NO∧¬NO<960∧¬962<NO):=by omega
  have n1:¬20<NT:=by omega
  have n2:¬30<NS:=by omega
  have H0:=hD h0;clear h0;have hfin:(∀(i:Nat) t,i<NT→m.types[i]?=some t→¬20<t.length)→(∀(i:Nat) o,i<NO→m.objs[i]?=some o→¬20<o.fs.length)→b=false:=fun ht ho=>HN.out (by
   have h1:=HNT.out;have h2:=HNO.out;have h3:=HNS.out;have h4:=H0.out;unfold Great;rw [←h1,←h2,←h3]
   rintro (h | h | h | h | ⟨t,h,hl⟩ | ⟨o,h,hl⟩)
   ·exact h4 (.inl h)
   ·exact h4 (.inr (.inl h))
   ·exact h4 (.inr (.inr (.inl h)))
   ·exact h4 (.inr (.inr (.inr h)))
   ·obtain ⟨i,hi,hit⟩:=List.getElem_of_mem h;exact ht i t (by omega) (by rw [List.getElem?_eq_getElem hi,hit]) hl
   ·obtain ⟨i,hi,hit⟩:=List.getElem_of_mem h;exact ho i o (by omega) (by rw [List.getElem?_eq_getElem hi,hit]) hl)
  have HF:=hD hfin;clear hfin;rcases hcase with ⟨a1,a2⟩ | ⟨a1,a2,a3⟩
  all_goals
   go_in;go_upto_region 1 with (fail)
   refine wpb1 (26) (#[tv,ov,sv]) ?_;rintro wa1 ⟨g1,b⟩
   replace B:=B.trans (b.mono B.size);clear b;replace c_g1:=g1.five;have HB:=hD B;clear B;go_wp2;have HG1:=hD g1;clear g1 c_g1
   go_loopg [3] NT (fun g i wr=>∃j:Nat,j≤NT∧g=NT-j∧i=.int .i64 j∧Hid ((∀(i:Nat) t,i<j→m.types[i]?=some t→¬20<t.length)∧Bx wr w.heap.size 26 #[tv,ov,sv]∧Below w.heap.size w wr))
   case atStart=>exact ⟨0,by omega,by omega,rfl,hD ⟨fun i t hi=>by omega,HG1.out,HB.out⟩⟩
   case round=>
    clear HG1 HB;obtain ⟨j,hj,rfl,rfl,hh⟩:=hrel;have g1:=hh.out.2.1;have c_g1:=g1.cell;by_cases hlt:j<NT
    ·obtain ⟨ad,y,t,iy,m0,ht,hby⟩:=(H.out.t.below hh.out.2.2).at_ (k:=j) (by have:=HNT.out;omega)
     have ly:=Rd.len hby.out Try.underlying41;obtain ⟨nt,hnt⟩:=exq t.length;rw [←hnt] at ly;have HNt:=hD hnt;clear hnt;by_cases hk:20<nt
     ·have hbt:b=true:=HY.out (.inr (.inr (.inr (.inr (.inl ⟨t,List.mem_of_getElem? ht.out,by rw [←HNt.out];exact hk⟩)))))
      subst hbt;go_wp2
      go_ret
      exact ⟨rfl,hh.out.2.2⟩
     ·go_wp2
      go_roundg (NT-(j+1))
      case measure=>omega
      case rel=>
       refine ⟨j+1,by omega,rfl,by go_num,hD ⟨fun i u hi hu=>?_,hh.out.2⟩⟩
       by_cases hij:i<j
       ·exact hh.out.1 i u hij hu
       ·obtain rfl:i=j:=by omega
        have:=ht.out;rw [hu] at this;injection this with this;subst this;rw [←HNt.out];exact hk
    ·obtain rfl:j=NT:=by omega
     have HT:=hD (hh.out.1);have HB:=hD hh.out.2.2;clear hh;go_wp2;have HG1:=hD g1;clear g1 c_g1
     go_loopg [4] NO (fun g i wr=>∃k:Nat,k≤NO∧g=NO-k∧i=.int .i64 k∧Hid ((∀(i:Nat) o,i<k→m.objs[i]?=some o→¬20<o.fs.length)∧Bx wr w.heap.size 26 #[tv,ov,sv]∧Below w.heap.size w wr))
     case atStart=>exact ⟨0,by omega,by omega,rfl,hD ⟨fun i t hi=>by omega,HG1.out,HB.out⟩⟩
     case round=>
      clear HG1 HB;obtain ⟨k,hk,rfl,rfl,hh⟩:=hrel;have g1:=hh.out.2.1;have c_g1:=g1.cell;by_cases hltk:k<NO
      ·obtain ⟨ob,oq,x,o,ix,m0,m1,ho,hx,hob⟩:=(H.out.o.below hh.out.2.2).at_ (k:=k) (by have:=HNO.out;omega)
       have lx:=Rd.len hx.out Try.underlying43;obtain ⟨nt,hnt⟩:=exq o.fs.length;rw [←hnt] at lx;have HNt:=hD hnt;clear hnt;by_cases hk2:20<nt
       ·have hbt:b=true:=HY.out (.inr (.inr (.inr (.inr (.inr ⟨o,List.mem_of_getElem? ho.out,by rw [←HNt.out];exact hk2⟩)))))
        subst hbt;go_wp2
        go_ret
        exact ⟨rfl,hh.out.2.2⟩
       ·go_wp2
        go_roundg (NO-(k+1))
        case measure=>omega
        case rel=>
         refine ⟨k+1,by omega,rfl,by go_num,hD ⟨fun i u hi hu=>?_,hh.out.2⟩⟩
         by_cases hij:i<k
         ·exact hh.out.1 i u hij hu
         ·obtain rfl:i=k:=by omega
          have:=ho.out;rw [hu] at this;injection this with this;subst this;rw [←HNt.out];exact hk2
      ·obtain rfl:k=NO:=by omega
       have hbf:=HF.out (fun i t hi=>HT.out i t hi) (fun i o hi=>hh.out.1 i o hi)
       subst hbf;go_wp2
       go_ret
       exact ⟨rfl,hh.out.2.2⟩
end
section
open Go.RowKit L02 L13 L18 L20
theorem mo_ne {a b:Mo} (h:¬(a.types=b.types∧a.objs=b.objs∧a.slots=b.slots)):¬a=b:=fun e=>h (by rw [e];exact ⟨rfl,rfl,rfl⟩)
theorem mo_eq {a b:Mo} (h1:a.types=b.types) (h2:a.objs=b.objs) (h3:a.slots=b.slots):a=b:=by cases a;cases b;simp_all
theorem ob_eq {a b:Ob} (h1:a.ty=b.ty) (h2:a.fs=b.fs):a=b:=by cases a;cases b;simp_all
theorem Same20_any (ta oa sa tb ob sb:Value) (a b:Mo) (r:Bool) (hr:r=decide (a=b)) (w:World) (ha:Mod w ta oa sa a) (hb:Mod w tb ob sb b):
  Calls Try.prog 9 #[.agg #[ta,oa,sa],.agg #[tb,ob,sb]] w fun e w'=>e=.returned (.bool r)∧Below w.heap.size w w':=by
 have B:=Below.refl w.heap.size w;have lo:=ha.o.len;have lo2:=hb.o.len;have lo':=ha.o.len_le;have lo2':=hb.o.len_le;obtain ⟨z1,hz1⟩:=exq (decide (a.types=b.types))
 obtain ⟨z3,hz3⟩:=exq (sameS a.slots b.slots)
 have TT:=hD (SameT_any ta tb a.types b.types z1 hz1)
 have ST:=hD (SameS_any sa sb a.slots b.slots z3 hz3)
 obtain ⟨NA,hNA⟩:=exq a.objs.length;obtain ⟨NB,hNB⟩:=exq b.objs.length;rw [←hNA] at lo lo';rw [←hNB] at lo2 lo2';have HA:=hD ha;have HB:=hD hb;have HNA:=hD hNA;have HNB:=hD hNB;have HR:=hD hr;have HZ1:=hD hz1;have HZ3:=hD hz3;have hno:¬(a.types=b.types∧a.objs=b.objs∧a.slots=b.slots)→r=false:=fun h=>by rw [hr];exact decide_eq_false (mo_ne h)
 have HNO:=hD hno;clear ha hb hNA hNB hr hz1 hz3 hno;go_in;go_upto_region 1 with (fail)
 refine wpb11 (26) (#[ta,oa,sa]) (26) (#[tb,ob,sb]) ?_;rintro wa1 ⟨g1,g2,b⟩
 replace B:=B.trans (b.mono B.size);clear b;replace c_g1:=g1.five;replace c_g2:=g2.five;go_wp2_with fail;refine (TT.out _ (HA.out.t.below B) (HB.out.t.below B)).mono ?_;rintro e w2 ⟨rfl,b2⟩
 replace g1:=g1.below b2;replace g2:=g2.below b2;replace B:=B.trans (b2.mono B.size)
 clear b2 c_g1 c_g2;have c_g1:=g1.cell;have c_g2:=g2.cell;cases z1
 ·have hrf:=HNO.out (fun h=>by have:=HZ1.out;rw [eq_comm,decide_eq_false_iff_not] at this;exact this h.1)
  subst hrf;go_wp2
  go_ret
  exact ⟨rfl,B⟩
 ·by_cases hl:NA=NB
  ·have hl1:((NA:Int) != (NB:Int))=false:=by rw [bne_eq_false_iff_eq];omega
   have HL:=hD hl;clear hl;go_wp2_with fail;refine (ST.out _ (HA.out.s.below B) (HB.out.s.below B)).mono ?_;rintro e w3 ⟨rfl,b2⟩
   replace g1:=g1.below b2;replace g2:=g2.below b2;replace B:=B.trans (b2.mono B.size)
   clear b2 c_g1 c_g2;cases z3
   ·have hrf:=HNO.out (fun h=>by have:=HZ3.out;rw [sameS,eq_comm,decide_eq_false_iff_not] at this;exact this h.2.2)
    subst hrf;go_wp2
    go_ret
    exact ⟨rfl,B⟩
   ·have HG:=hD (And.intro g1 (And.intro g2 B))
    clear g1 g2 B;go_wp2
    go_loopg [5] NA (fun g i wr=>∃k:Nat,k≤NA∧g=NA-k∧i=.int .i64 k∧Hid (a.objs.take k=b.objs.take k∧Bx wr w.heap.size 26 #[ta,oa,sa]∧Bx wr (w.heap.size+1) 26 #[tb,ob,sb]∧Below w.heap.size w wr))
    case atStart=>exact ⟨0,by omega,by omega,rfl,hD ⟨by simp,HG.out⟩⟩
    case round=>
     clear HG;obtain ⟨k,hk,rfl,rfl,hh⟩:=hrel;obtain ⟨heq,g1,g2,B⟩:=hh.out;have HEQ:=hD heq;clear hh heq;have c_g1:=g1.cell;have c_g2:=g2.cell;by_cases hlt:k<NA
     ·obtain ⟨bb,bq,x,o,ix,m0,m1,ho,hx,hxb⟩:=(HA.out.o.below B).at_ (k:=k) (by have:=HNA.out;omega)
      obtain ⟨cb,cq,y,p,iy,m2,m3,hp,hy,hyb⟩:=(HB.out.o.below B).at_ (k:=k) (by have:=HNB.out;have:=HL.out;omega)
      have hxx:=hx.out;have hyy:=hy.out;by_cases hty:o.ty=p.ty
      ·have ht:(o.ty != p.ty)=false:=by rw [bne_eq_false_iff_eq];exact hty
       obtain ⟨q,hq⟩:=exq (L02.same o.fs p.fs)
       have SW:=hD (Same_r x y o.fs p.fs q hq)
       have HQ:=hD hq;have HTY:=hD hty;clear hq hty;have HXX:=hD hxx;have HYY:=hD hyy;go_upto_region 6 with (fail)
       have HC:=hD (fun z:Fut wr=>And.intro (HXX.out.below z.h) (HYY.out.below z.h))
       clear hxx hyy;refine wp_region_calm (by kernel_rfl) (by kernel_rfl) ?_;replace c_g1:=fun x:Fut _=>(g1.below x.h).cell;replace c_g2:=fun x:Fut _=>(g2.below x.h).cell;have c_m0:=fun x:Fut _=>cell_later x.h m0;have c_m1:=fun x:Fut _=>cell_later x.h m1;have c_m2:=fun x:Fut _=>cell_later x.h m2;have c_m3:=fun x:Fut _=>cell_later x.h m3;repeat (go_big_quiet_step (exact Fut.call (SW.out _ (HC.out _).1 (HC.out _).2)))
       refine wpQuiet_nil ?_;intro _ hw';obtain ⟨xq,hw''⟩:=hw';subst hw'';replace g1:=g1.below xq.h;replace c_g1:=g1.five;replace g2:=g2.below xq.h;replace c_g2:=g2.five;clear c_m0;replace m0:=cell_later xq.h m0;clear c_m1;replace m1:=cell_later xq.h m1;clear c_m2;replace m2:=cell_later xq.h m2;clear c_m3;replace m3:=cell_later xq.h m3;replace B:=B.trans (xq.h.mono B.size)
       cases q
       ·have hrf:=HNO.out (fun h=>by
         have h1:=ho.out;have h2:=hp.out;rw [h.2.1,h2] at h1;injection h1 with h1
         have:=HQ.out;rw [h1] at this;simp [L02.same] at this)
        subst hrf;go_wp2
        go_ret
        exact ⟨rfl,B⟩
       ·have hs:o.fs=p.fs:=by have:=HQ.out;simpa [L02.same,eq_comm] using this
        have HS:=hD (ob_eq HTY.out hs);clear hs;have HH:=hD (And.intro g1 (And.intro g2 B))
        clear g1 g2 B c_g1 c_g2 m0 m1 m2 m3;go_wp2
        go_roundg (NA-(k+1))
        case measure=>omega
        case rel=>
         refine ⟨k+1,by omega,rfl,by go_num,hD ⟨?_,HH.out⟩⟩
         rw [List.take_add_one,List.take_add_one,HEQ.out,ho.out,hp.out,HS.out]
      ·have ht:(o.ty != p.ty)=true:=by rw [bne_iff_ne];exact hty
       have hrf:=HNO.out (fun h=>by
        have h1:=ho.out;have h2:=hp.out;rw [h.2.1,h2] at h1;injection h1 with h1
        exact hty (by rw [h1]))
       subst hrf;clear hxx hyy hty;go_upto_region 6 with (fail)
       refine wp_region_calm (by kernel_rfl) (by kernel_rfl) ?_;replace c_g1:=fun x:Fut _=>(g1.below x.h).cell;replace c_g2:=fun x:Fut _=>(g2.below x.h).cell;have c_m0:=fun x:Fut _=>cell_later x.h m0;have c_m1:=fun x:Fut _=>cell_later x.h m1;have c_m2:=fun x:Fut _=>cell_later x.h m2;have c_m3:=fun x:Fut _=>cell_later x.h m3;repeat (go_big_quiet_step (fail))
       refine wpQuiet_nil ?_;intro _ hw';obtain ⟨xq,hw''⟩:=hw';subst hw'';replace g1:=g1.below xq.h;replace c_g1:=g1.five;replace g2:=g2.below xq.h;replace c_g2:=g2.five;clear c_m0;replace m0:=cell_later xq.h m0;clear c_m1;replace m1:=cell_later xq.h m1;clear c_m2;replace m2:=cell_later xq.h m2;clear c_m3;replace m3:=cell_later xq.h m3;replace B:=B.trans (xq.h.mono B.size)
       go_wp2
       go_ret
       exact ⟨rfl,B⟩
     ·obtain rfl:k=NA:=by omega
      have hrt:r=true:=by
       rw [HR.out,decide_eq_true_iff]
       have h1:=HEQ.out;rw [List.take_of_length_le (by have:=HNA.out;omega),List.take_of_length_le (by have:=HNB.out;have:=HL.out;omega)] at h1;have h2:=HZ1.out;have h3:=HZ3.out;rw [eq_comm,decide_eq_true_iff] at h2;rw [sameS,eq_comm,decide_eq_true_iff] at h3;exact mo_eq h2 h1 h3
      subst hrt;go_wp2
      go_ret
      exact ⟨rfl,B⟩
  ·have hl1:((NA:Int) != (NB:Int))=true:=by rw [bne_iff_ne];omega
   have hrf:=HNO.out (fun h=>hl (by rw [HNA.out,HNB.out,h.2.1]))
   subst hrf;clear hl;go_wp2
   go_ret
   exact ⟨rfl,B⟩
end
section
open Go Go.RowKit
section
variable {P:Program} {ops:Array Oper} {md:Region.Mode}
def YieldsM (P:Program) (md:Region.Mode) (ops:Array Oper) (C:Array Bool→World→Prop) (nn:Nat→Bool) (x:Nat→Value) (i:Nat) (o:Oper) (v:Value) (a:Act):Prop:=
 (nn i=true∧v=x i∧Region.wanted o (yielded ops a.tmps)=true)∨(nn i=false∧YieldsV P md ops C i o v a)
theorem YieldsM.of_same {C:Array Bool→World→Prop} {nn:Nat→Bool} {x:Nat→Value} {i:Nat} {o:Oper} {v:Value} {a a':Act} (hy:YieldsM P md ops C nn x i o v a) (he:execOp a'.eval o=execOp a.eval o)
  (hw:Region.wanted o (yielded ops a'.tmps)=Region.wanted o (yielded ops a.tmps)):YieldsM P md ops C nn x i o v a':=by
 rcases hy with ⟨h1,h2,h3⟩ | ⟨h1,h2⟩
 ·exact .inl ⟨h1,h2,by rw [hw];exact h3⟩
 ·exact .inr ⟨h1,h2.of_same he hw⟩
def qOpM (P:Program) (md:Region.Mode) (ops:Array Oper) (C:Array Bool→World→Prop) (nn:Nat→Bool) (x:Nat→Value) (T:Nat→Sem Next→Prop) (i:Nat) (K:Act→Prop) (a:Act):Prop:=
 match ops[i]? with
 | none=>False
 | some o=>∃v,(YieldsM P md ops C nn x i o v a∧(nn i=true→T i (execOp a.eval o)))∧K (a.put o.dst v)
variable {C:Array Bool→World→Prop} {nn:Nat→Bool} {x:Nat→Value} {T:Nat→Sem Next→Prop}
theorem qOpM_mono {i:Nat} {a:Act} {K K':Act→Prop} (h:∀a,K a→K' a) (hh:qOpM P md ops C nn x T i K a):qOpM P md ops C nn x T i K' a:=by
 unfold qOpM at *;split
 ·rename_i ho;simp only [ho] at hh
 ·rename_i o ho;simp only [ho] at hh;obtain ⟨v,h1,h2⟩:=hh;exact ⟨v,h1,h _ h2⟩
def wpAnyM (P:Program) (md:Region.Mode) (ops:Array Oper) (C:Array Bool→World→Prop) (nn:Nat→Bool) (x:Nat→Value) (T:Nat→Sem Next→Prop) (Q:Array Bool→Act→Prop):Nat→Array Bool→Act→Prop
 | 0,listed,a=>Region.ready md ops listed=[]∧Q listed a
 | fuel+1,listed,a=>
  (Region.ready md ops listed=[]→Q listed a)∧
  ∀i∈Region.ready md ops listed,qOpM P md ops C nn x T i (wpAnyM P md ops C nn x T Q fuel (listed.setIfInBounds i true)) a
theorem qOpM_put {i j:Nat} {oi oj:Oper} {v:Value} (hj:ops[j]?=some oj) (hap:oi.apart ops oj=true)
  (hsi:∀cs b,oi.op≠.select cs b) (hsj:∀cs b,oj.op≠.select cs b) {K:Act→Prop} {a:Act}
  (hy:YieldsM P md ops C nn x i oi v a∧(nn i=true→T i (execOp a.eval oi))) (h:qOpM P md ops C nn x T j K (a.put oi.dst v)):
  qOpM P md ops C nn x T j (fun a'=>(YieldsM P md ops C nn x i oi v a'∧(nn i=true→T i (execOp a'.eval oi)))∧K (a'.put oi.dst v)) a:=by
 obtain ⟨h1,h2,h3⟩:=Oper.apart_spec hap;unfold qOpM at *;simp only [hj] at *;obtain ⟨u,⟨hu,hu2⟩,hn⟩:=h;refine ⟨u,⟨hu.of_same ?_ ?_,fun e=>?_⟩,⟨hy.1.of_same ?_ ?_,fun e=>?_⟩,?_⟩
 ·exact (execOp_put oj hsj a oi.dst v h1).symm
 ·exact (wanted_put oj a oi.dst v h1).symm
 ·have:=hu2 e;rwa [execOp_put oj hsj a oi.dst v h1] at this
 ·exact execOp_put oi hsi a oj.dst u h3
 ·exact wanted_put oi a oj.dst u h3
 ·have:=hy.2 e;rwa [execOp_put oi hsi a oj.dst u h3]
 ·rw [←Act.put_comm a v u h2];exact hn
theorem wpAnyM_first {Q:Array Bool→Act→Prop} {i:Nat} {oi:Oper} {v:Value} (hi:ops[i]?=some oi) (hsel:∀(j:Nat) (o:Oper) cs b,ops[j]?=some o→o.op≠.select cs b):
  ∀(fuel:Nat) (listed:Array Bool) (a:Act),
   (∀j oj,ops[j]?=some oj→j≠i→listed.getD j true=false→(∀e∈oj.after,Region.binds md e=true→e.on≠i)→oi.apart ops oj=true)→
   i∈Region.ready md ops listed→YieldsM P md ops C nn x i oi v a∧(nn i=true→T i (execOp a.eval oi))→
   wpAnyM P md ops C nn x T Q fuel (listed.setIfInBounds i true) (a.put oi.dst v)→wpAnyM P md ops C nn x T Q (fuel+1) listed a:=by
 intro fuel;induction fuel with
 | zero=>
  intro listed a _ hr hy H;refine ⟨fun h=>(by rw [h] at hr;cases hr),fun j hj=>?_⟩
  by_cases hji:j=i
  ·subst hji;unfold qOpM;simp only [hi]
   exact ⟨v,hy,H⟩
  ·have:=ready_mono hj hji;rw [H.1] at this;cases this
 | succ fuel ih=>
  intro listed a hfree hr hy H;refine ⟨fun h=>(by rw [h] at hr;cases hr),fun j hj=>?_⟩
  by_cases hji:j=i
  ·subst hji;unfold qOpM;simp only [hi]
   exact ⟨v,hy,H⟩
  ·have h1:=H.2 j (ready_mono hj hji)
   obtain ⟨hjun,oj,hoj,hall⟩:=mem_ready.1 hj;have hnot:∀e∈oj.after,Region.binds md e=true→e.on≠i:=fun e he hb heq=>by
    have h1:=hall e he hb;have h0:=(mem_ready.1 hr).1;rw [heq] at h1;rcases Nat.lt_or_ge i listed.size with h' | h'
    ·simp [h'] at h0 h1;rw [h0] at h1;cases h1
    ·simp [Array.getElem?_eq_none h'] at h1
   have h2:=qOpM_put hoj (hfree j oj hoj hji hjun hnot) (fun cs b=>hsel i oi cs b hi) (fun cs b=>hsel j oj cs b hoj) hy h1;have hfree':∀k ok,ops[k]?=some ok→k≠i→(listed.setIfInBounds j true).getD k true=false→
     (∀e∈ok.after,Region.binds md e=true→e.on≠i)→oi.apart ops ok=true:=fun k ok hk hki hun hno=>by
    refine hfree k ok hk hki ?_ hno;by_cases hjk:j=k
    ·subst hjk;exact hjun
    ·rw [getD_set_ne true hjk] at hun;exact hun
   refine qOpM_mono (fun a' h3=>ih (listed.setIfInBounds j true) a' hfree' (ready_mono hr (Ne.symm hji)) h3.1 ?_) h2;rw [Array.setIfInBounds_comm _ _ hji]
   exact h3.2
def wpM (P:Program) (md:Region.Mode) (ops:Array Oper) (C:Array Bool→World→Prop) (nn:Nat→Bool) (x:Nat→Value) (T:Nat→Sem Next→Prop) (Q:Act→Prop):List Oper→Nat→Act→Prop
 | [],_,a=>Q a
 | o :: rest,k,a=>∃v,(YieldsM P md ops C nn x k o v a∧(nn k=true→T k (execOp a.eval o)))∧wpM P md ops C nn x T Q rest (k+1) (a.put o.dst v)
theorem wpAnyM_lex {Q:Array Bool→Act→Prop} (hs:Region.noSelect ops=true):∀(l:List Oper) (k:Nat) (listed:Array Bool) (a:Act),(∀j,l[j]?=ops[k+j]?)→
  Region.lexFrom md ops l.length k listed=true→wpM P md ops C nn x T (Q (setAll l.length k listed)) l k a→wpAnyM P md ops C nn x T Q l.length listed a
 | [],_,_,_,_,hB,h=>⟨by simpa [Region.lexFrom] using hB,h⟩
 | o :: l,k,listed,a,hl,hB,h=>by
  have h0:ops[k]?=some o:=by simpa using (hl 0).symm
  simp only [List.length_cons,Region.lexFrom,Bool.and_eq_true] at hB;obtain ⟨⟨hr,hf⟩,hB'⟩:=hB;obtain ⟨v,hy,hK⟩:=h;exact wpAnyM_first h0 (Region.noSelect_spec hs) l.length listed a (Region.free_spec h0 hf) (by simpa using hr) hy
   (wpAnyM_lex hs l (k+1) _ _ (fun j=>by have:=hl (j+1);simpa [Nat.add_assoc,Nat.add_comm 1 j] using this) hB' hK)
def uponN (P:Program) (Post:Value→World→Prop):Result Next→Prop
 | .ok (.value u) w'=>Post u w'
 | .ok (.enter f args) w'=>Calls P f args w' (fun e w''=>∃u,e=.returned u∧Post u w'')
 | _=>False
theorem uponN_mono {P:Program} {Post Post':Value→World→Prop} {r:Result Next} (h:∀v w,Post v w→Post' v w) (hr:uponN P Post r):uponN P Post' r:=by
 cases r with
 | ok n w'=>
  cases n <;> simp only [uponN] at hr ⊢;case value u=>exact h _ _ hr
  case enter f args=>exact hr.mono fun e w'' ⟨u,he,hp⟩=>⟨u,he,h _ _ hp⟩
 | halt y w'=>simp only [uponN] at hr
theorem wpAny_of_M {G:Type} {val:G→Nat→Value} {V:G→Prop} {Ag:Array Bool→G→G→Prop} {Cg:G→Array Bool→World→Prop} {Tg:Nat→Sem Next→Prop} {Q':Exit→Act→World→Prop}
  (hrf:∀(l:Array Bool) g,Ag l g g) (htr:∀(l:Array Bool) g g' g'',Ag l g g'→Ag l g' g''→Ag l g g'') (hmn:∀(l:Array Bool) i g g',Ag (l.setIfInBounds i true) g g'→l.getD i true=false→Ag l g g')
  (hvl:∀(l:Array Bool) i g g',nn i=true→l.getD i true=false→Ag (l.setIfInBounds i true) g g'→val g i=val g' i) (hag:∀(l:Array Bool) g g' w,Ag l g g'→Cg g l w→Cg g' l w)
  (hT:∀i s (l:Array Bool) w g,nn i=true→Tg i s→V g→i∈Region.ready md ops l→Cg g l w→uponN P (fun v w'=>∃g',V g'∧Ag l g g'∧v=val g' i∧Cg g' (l.setIfInBounds i true) w') (s.run P w)):
  ∀(fuel:Nat) (l:Array Bool) (a:Act) (w:World) (g0:G),V g0→Cg g0 l w→
  (∀g,V g→Ag l g0 g→wpAnyM P md ops (Cg g) nn (val g) Tg (fun l a=>∀w',Cg g l w'→Q' .normal a w') fuel l a)→wpAny P md ops Q' fuel l a w
 | 0,l,a,w,g0,hg0,hC,h=>⟨(h g0 hg0 (hrf _ _)).1,(h g0 hg0 (hrf _ _)).2 w hC⟩
 | fuel+1,l,a,w,g0,hg0,hC,h=>by
  refine ⟨fun h0=>(h g0 hg0 (hrf _ _)).1 h0 w hC,fun i hi=>?_⟩
  have hun:=(mem_ready.1 hi).1;have h1:=(h g0 hg0 (hrf _ _)).2 i hi;unfold qOpM at h1;unfold wpOp;split
  ·rename_i ho;simp only [ho] at h1
  ·rename_i o ho;simp only [ho] at h1;obtain ⟨v,⟨h2,hT0⟩,h3⟩:=h1
   -- what comes behind a number of nn that has yielded val g' i
   have next:nn i=true→∀g',V g'→Ag l g0 g'→∀w',Cg g' (l.setIfInBounds i true) w'→wpAny P md ops Q' fuel (l.setIfInBounds i true) (a.put o.dst (val g' i)) w':=by
    intro hn g' hg' hA w' hC';refine wpAny_of_M hrf htr hmn hvl hag hT fuel _ _ w' g' hg' hC' fun g hg hA2=>?_;have h4:=(h g hg (htr _ _ _ _ hA (hmn _ _ _ _ hA2 hun))).2 i hi;unfold qOpM at h4;simp only [ho] at h4;obtain ⟨v',⟨h5,_⟩,h6⟩:=h4;rcases h5 with ⟨_,e5,_⟩ | ⟨hne,_⟩
    ·rw [hvl _ _ _ _ hn hun hA2,←e5];exact h6
    ·rw [hn] at hne;cases hne
   rcases h2 with ⟨hn,hv,hw⟩ | ⟨hn,h2⟩
   ·rw [if_pos hw]
    left;have h5:=hT i _ l w g0 hn (hT0 hn) hg0 hi hC;unfold Oper.wp
    generalize (execOp a.eval o).run P w=r at*
    cases r with
    | ok n w'=>
     cases n <;> simp only [uponN] at h5 <;> simp only [Oper.upon]
     case value u=>obtain ⟨g',e1,e2,rfl,e4⟩:=h5;exact next hn g' e1 e2 _ e4
     case enter f args=>
      refine h5.mono fun e w'' ⟨u,he,g',e1,e2,e3,e4⟩=>?_;subst he;subst e3;exact next hn g' e1 e2 _ e4
    | halt y w'=>simp only [uponN] at h5
   ·have hval:∀g,V g→Ag (l.setIfInBounds i true) g0 g→wpAnyM P md ops (Cg g) nn (val g) Tg (fun l a=>∀w',Cg g l w'→Q' .normal a w') fuel (l.setIfInBounds i true) (a.put o.dst v):=by
     intro g hg hA2;have hA:=hmn _ _ _ _ hA2 hun;have h4:=(h g hg hA).2 i hi;unfold qOpM at h4;simp only [ho] at h4;obtain ⟨v',⟨h5,_⟩,h6⟩:=h4;rcases h5 with ⟨e,_⟩ | ⟨_,h5⟩
     ·rw [hn] at e;cases e
     ·have hvv:v=v':=by
       rcases h2 with ⟨hw,ha⟩ | ⟨hw,rfl,_⟩
       ·rcases h5 with ⟨_,hb⟩ | ⟨hw',_⟩
        ·exact uponV_val (ha l w hi hC) (hb l w hi (hag _ _ _ _ hA hC))
        ·rw [hw] at hw';cases hw'
       ·rcases h5 with ⟨hw',_⟩ | ⟨_,e,_⟩
        ·rw [hw] at hw';cases hw'
        ·exact e.symm
      rw [hvv];exact h6
    rcases h2 with ⟨hw,ha⟩ | ⟨hw,rfl,hv⟩
    ·rw [if_pos hw]
     left;have h5:=ha l w hi hC;unfold Oper.wp
     generalize (execOp a.eval o).run P w=r at*
     cases r with
     | ok n w'=>
      cases n <;> simp only [uponV] at h5 <;> simp only [Oper.upon]
      case value u=>obtain ⟨e1,e2⟩:=h5;rw [e1];exact wpAny_of_M hrf htr hmn hvl hag hT fuel _ _ w' g0 hg0 e2 hval
      case skip=>obtain ⟨e1,e2⟩:=h5;rw [←e1];exact wpAny_of_M hrf htr hmn hvl hag hT fuel _ _ w' g0 hg0 e2 hval
     | halt y w'=>simp only [uponV] at h5
    ·rw [if_neg (by rw [hw];exact Bool.false_ne_true)]
     exact wpAny_of_M hrf htr hmn hvl hag hT fuel _ _ w g0 hg0 (hv l w hi hC) hval
end
section
variable {P:Program} {ops:Array Oper} {rest:List Oper} {o:Oper} {a:Act} {Q:Act→Prop} {F:(Nat→Bool)→World→Prop} {js:List Nat} {k:Nat} {nn:Nat→Bool} {md:Region.Mode} {x:Nat→Value} {T:Nat→Sem Next→Prop}
theorem wpM_nil (h:Q a):wpM P md ops (CN F) nn x T Q [] k a:=h
theorem wpM_new (hn:nn k=true) (hw:Region.wanted o (yielded ops a.tmps)=true) (hT:T k (execOp a.eval o)) (h:wpM P md ops (CN F) nn x T Q rest (k+1) (a.put o.dst (x k))):wpM P md ops (CN F) nn x T Q (o :: rest) k a:=
 ⟨x k,⟨.inl ⟨hn,rfl,hw⟩,fun _=>hT⟩,h⟩
theorem wpM_read (hD:Dep F js) (hV:isV o.op=true) (hk:k∉js) (hn:nn k=false) (h:wpQuiet P ops (fun W=>∃x:FXN F,W=x.W) (fun a'=>wpM P md ops (CN F) nn x T Q rest (k+1) a') [o] a):wpM P md ops (CN F) nn x T Q (o :: rest) k a:=by
 unfold wpQuiet at h;split at h
 ·rename_i hw;obtain ⟨v,h1,h2⟩:=h;refine ⟨v,⟨.inr ⟨hn,.inl ⟨hw,fun listed W hl hW=>?_⟩⟩,fun e=>by rw [hn] at e;cases e⟩,h2⟩
  have h3:=h1 W ⟨⟨W,_,hW⟩,rfl⟩
  unfold Oper.quietAt at h3;cases hr:(execOp a.eval o).run P W with
  | ok n w'=>
   obtain ⟨u,rfl⟩:=isV_value hV hr;rw [hr] at h3;simp only [Oper.quietUpon] at h3;simp only [uponV]
   obtain ⟨e1,e2⟩:=h3;subst e1;exact ⟨e2,hW.skip hD hk⟩
  | halt x w'=>rw [hr] at h3;simp only [Oper.quietUpon] at h3
 ·rename_i hw;exact ⟨undef,⟨.inr ⟨hn,.inr ⟨by simpa using hw,rfl,fun listed W hl hW=>hW.skip hD hk⟩⟩,fun e=>by rw [hn] at e;cases e⟩,h⟩
theorem wpM_store (hD:Dep F js) (hn:nn k=false) (hi:ops[k]?=some o) (ty:TypeId) (px py:Operand) (ho:o.op=.store ty px py) (hw:Region.wanted o (yielded ops a.tmps)=true) {p u:Value} (hx:a.eval px=p) (hy:a.eval py=u) (dep:List Nat) (hd:(dep.all fun j=>o.after.any fun e=>Region.binds md e && e.on==j)=true)
  (hs:∀f W,F f W→f k=false→(∀j∈dep,f j=true)→∃W',(Instr.storeAt ty p u).run P W=.ok () W'∧F (fun i=>i==k || f i) W') (h:wpM P md ops (CN F) nn x T Q rest (k+1) (a.put o.dst undef)):wpM P md ops (CN F) nn x T Q (o :: rest) k a:=by
 refine ⟨undef,⟨.inr ⟨hn,.inl ⟨hw,fun listed W hl hW=>?_⟩⟩,fun e=>by rw [hn] at e;cases e⟩,h⟩
 have hk:listed.getD k false=false:=by
  have h1:=(mem_ready.1 hl).1;rcases Nat.lt_or_ge k listed.size with h' | h'
  ·simp [h'] at h1 ⊢;exact h1
  ·simp [Array.getElem?_eq_none h'] at h1
 obtain ⟨W',h1,h2⟩:=hs _ W hW hk (fun j hj=>ready_after hi (List.all_eq_true.1 hd j hj) hl)
 unfold execOp;simp only [ho,hx,hy,Sem.run_bind,h1,Result.andThen_ok,Sem.run_pure,uponV,true_and]
 refine hD _ _ _ (fun j hj=>?_) h2;by_cases hjk:j=k
 ·subst hjk;rw [(getD_on (mem_ready.1 hl).1).2];simp
 ·have hne:k≠j:=Ne.symm hjk;rw [getD_set_ne false hne];simp [hjk]
end
theorem wp_region_M {P:Program} {id:Nat} {Q:Exit→Act→World→Prop} {a:Act} {w:World} {l:List Oper} {G:Type} (val:G→Nat→Value) (Ag:(Nat→Bool)→G→G→Prop) (F:G→(Nat→Bool)→World→Prop) (js ns:List Nat) (dep:Nat→List Nat) (T:Nat→Sem Next→Prop) (g0:G)
  (hD:∀g,Dep (F g) js) (hm:P.follows .mixedOrders=true) (hB:Region.lexB .any l.toArray=true)
  (hf:(js.all fun j=>(setAll l.length 0 (Array.replicate l.length false)).getD j false)=true)
  (hnj:(ns.all fun k=>js.contains k && match l.toArray[k]? with | some o=>(dep k).all (fun j=>o.after.any fun e=>Region.binds .any e && e.on==j) | none=>false)=true)
  (hAD:∀(φ ψ:Nat→Bool) g g',(∀j∈js,φ j=ψ j)→Ag φ g g'→Ag ψ g g') (hrf:∀φ g,Ag φ g g) (htr:∀φ g g' g'',Ag φ g g'→Ag φ g' g''→Ag φ g g'') (hmn:∀(φ:Nat→Bool) k g g',Ag (fun i=>i==k || φ i) g g'→φ k=false→Ag φ g g')
  (hvl:∀(φ:Nat→Bool) k g g',k∈ns→φ k=false→Ag (fun i=>i==k || φ i) g g'→val g k=val g' k) (hag:∀φ g g' W,Ag φ g g'→F g φ W→F g' φ W)
  (h0:∀g,Ag (fun _=>false) g0 g) (hC:F g0 (fun _=>false) w.drew)
  (hT:∀k s (φ:Nat→Bool) W g,k∈ns→T k s→φ k=false→(∀j∈dep k,φ j=true)→F g φ W→uponN P (fun v W'=>∃g',Ag φ g g'∧v=val g' k∧F g' (fun i=>i==k || φ i) W') (s.run P W))
  (h:∀g,wpM P .any l.toArray (CN (F g)) (fun i=>ns.contains i) (val g) T (fun a'=>∀w',F g (fun _=>true) w'→Q .normal a' w') l 0 a):(Code.region id l.toArray true).wp P Q a w:=by
 have hrep:∀j,(Array.replicate l.length false).getD j false=false:=fun j=>getD_replicate_false _ _;simp only [Region.lexB,Bool.and_eq_true] at hB;have un:∀{listed:Array Bool} {i:Nat},listed.getD i true=false→listed.getD i false=false:=fun {listed i} h1=>by
  rcases Nat.lt_or_ge i listed.size with h' | h'
  ·simp [h'] at h1 ⊢;exact h1
  ·simp [Array.getElem?_eq_none h'] at h1
 have set_on:∀{listed:Array Bool} {i:Nat},listed.getD i true=false→∀j,(listed.setIfInBounds i true).getD j false=(j==i || listed.getD j false):=fun {listed i} h1 j=>by
  by_cases hj:j=i
  ·subst hj
   have:=(getD_on h1).2;simp [this]
  ·rw [getD_set_ne false (Ne.symm hj)];simp [hj]
 refine wp_region_any hm (wpAny_of_M (val:=val) (V:=fun _=>True) (Ag:=fun listed=>Ag (fun j=>listed.getD j false)) (Cg:=fun g=>CN (F g)) (Tg:=T) (nn:=fun i=>ns.contains i) ?_ ?_ ?_ ?_ ?_ ?_ _ _ _ _ g0 trivial ?_ ?_)
 ·intro listed g;exact hrf _ g
 ·intro listed g g' g'' h1 h2;exact htr _ _ _ _ h1 h2
 ·intro listed i g g' h1 h2;refine hmn _ i g g' (hAD _ _ _ _ (fun j _=>set_on h2 j) h1) (un h2)
 ·intro listed i g g' hn h2 h1;exact hvl _ i g g' (by simpa using hn) (un h2) (hAD _ _ _ _ (fun j _=>set_on h2 j) h1)
 ·intro listed g g' W h1 h2;exact hag _ _ _ _ h1 h2
 ·intro i s listed W g hn hs _ hr hW;have hi:i∈ns:=by simpa using hn
  have hun:=(mem_ready.1 hr).1;have hdp:=List.all_eq_true.1 hnj i hi;simp only [Bool.and_eq_true] at hdp;have hdeps:∀j∈dep i,listed.getD j false=true:=by
   obtain ⟨o,ho,_⟩:=(mem_ready.1 hr).2;have h2:=hdp.2;simp only [ho] at h2;exact fun j hj=>ready_after ho (List.all_eq_true.1 h2 j hj) hr
  have h3:=hT i s _ W g hi hs (un hun) hdeps hW;refine uponN_mono (fun v W' ⟨g',e1,e2,e3⟩=>⟨g',trivial,e1,e2,?_⟩) h3;exact hD g' _ _ _ (fun j _=>(set_on hun j).symm) e3
 ·exact hD g0 _ _ _ (fun j _=>by have:=hrep j;simpa using this.symm) hC
 ·intro g _ _;have e2:∀w',CN (F g) (setAll l.length 0 (Array.replicate l.length false)) w'→F g (fun _=>true) w':=fun w' h'=>hD g _ _ _ (fun j hj=>by simpa using List.all_eq_true.1 hf j hj) h';have mono:∀(r:List Oper) (k:Nat) (a':Act),wpM P .any l.toArray (CN (F g)) (fun i=>ns.contains i) (val g) T (fun a'=>∀w',F g (fun _=>true) w'→Q .normal a' w') r k a'→wpM P .any l.toArray (CN (F g)) (fun i=>ns.contains i) (val g) T (fun a'=>∀w',CN (F g) (setAll l.length 0 (Array.replicate l.length false)) w'→Q .normal a' w') r k a':=by
   intro r;induction r with
   | nil=>intro k a' h0 w' h';exact h0 w' (e2 w' h')
   | cons o r ih=>intro k a' h0;obtain ⟨v,h1,h2⟩:=h0;exact ⟨v,h1,ih _ _ h2⟩
  have:=wpAnyM_lex (C:=CN (F g)) (md:=.any) (nn:=fun i=>ns.contains i) (x:=val g) (T:=T) (Q:=fun listed a'=>∀w',CN (F g) listed w'→Q .normal a' w') hB.1 l 0 (Array.replicate l.length false) a (by simp) (by simpa using hB.2) (mono _ _ _ (h g))
  simpa using this
end
end Go.Proofs.Yteejianjjpdimaa
